/-
  Environments in the program's memory: scopes, schemes, sets of variables' numbers; mono, with, get, Any, Vars.New by contracts.
-/
import Derived.Test.YtpbplpnifjbkoabGreatDoorEngx
import Derived.Maps.OwnSet
namespace Go.Proofs.YtpbplpnifjbkoabGreatDoor
open Go.RowKit
open Go.Maps (Keyed int_keyed)

theorem uIntE : Tryz.prog.underlying 3 = some (.int .i64) := by kernel_rfl
theorem lawIntE : Keyed Tryz.prog 3 := int_keyed uIntE
theorem keyIntE {n : Int} (h0 : 0 ≤ n) (h1 : n ≤ 1000000000) : keyOf Tryz.prog 3 (.int .i64 n) = some (.int .i64 n) := Maps.keyOf_int_mk uIntE (WalkArith.wf_i64 (by omega))
theorem uSet : Tryz.prog.underlying 117 = some (.map 3 277) := by kernel_rfl
theorem zUnit (w : World) : (zeroValue 277).run Tryz.prog w = .ok (.agg #[]) w := by kernel_rfl

/-- A set of variables' numbers; n: more than were ever put in. -/
def SetN (w : World) (b n : Nat) (l : List Nat) : Prop :=
  ∃ D, w.ownsMap (H := Unit) Tryz.prog 3 unitElem b n D ∧ ∀ k : Nat, Maps.has D (.int .i64 k) = decide (k ∈ l)
theorem SetN.made (w : World) : SetN (w.alloc (.map #[] 0)) w.heap.size 0 [] := ⟨_, World.ownsMap_made _ _ _ _, fun _k => rfl⟩
theorem SetN.same {w w' : World} {b n : Nat} {l : List Nat} (h : SetN w b n l) (hb : w'.heap[b]? = w.heap[b]?) : SetN w' b n l := by
  obtain ⟨D, ⟨es, clock, h1, h2⟩, h3⟩ := h
  exact ⟨D, ⟨es, clock, hb.trans h1, h2⟩, h3⟩
theorem SetN.obj {w : World} {b n : Nat} {l : List Nat} (h : SetN w b n l) : ∃ es cl, w.heap[b]? = some (.map es cl) := by
  obtain ⟨D, ⟨es, clock, h1, h2⟩, h3⟩ := h
  exact ⟨es, clock, h1⟩
theorem SetN.iff {w : World} {b n : Nat} {l l' : List Nat} (h : SetN w b n l) (hl : ∀ k, k ∈ l ↔ k ∈ l') : SetN w b n l' := by
  obtain ⟨D, h1, h2⟩ := h
  exact ⟨D, h1, fun k => by rw [h2 k]; exact decide_eq_decide.2 (hl k)⟩
theorem SetN.look {w : World} {b n : Nat} {l : List Nat} (h : SetN w b n l) (k : Nat) (hk : k ≤ 1000000000) :
    (Instr.lookup 117 (.map (some b)) (.int .i64 k) true).run Tryz.prog w = .ok (.tuple #[.agg #[], .bool (decide (k ∈ l))]) w := by
  obtain ⟨D, h1, h2⟩ := h
  obtain ⟨v, ps, hrun, hv⟩ := h1.look_ok lawIntE uSet (zUnit w) (zd := .agg []) (zp := []) unitElem_mk (keyIntE (n := k) (by omega) (by omega))
  obtain ⟨rfl, _⟩ := unitElem_inv hv
  rw [h2 k] at hrun
  exact hrun
theorem SetN.store {w : World} {b n : Nat} {l : List Nat} (h : SetN w b n l) (hn : n < maxLen) (k : Nat) (hk : k ≤ 1000000000) :
    ∃ w', (Instr.mapUpdate 117 (.map (some b)) (.int .i64 k) (.agg #[])).run Tryz.prog w = .ok () w' ∧ SetN w' b (n + 1) (l ++ [k]) ∧ w.grownBy w' (some b) := by
  obtain ⟨D, h1, h2⟩ := h
  obtain ⟨w', hrun, h4, h5⟩ := h1.update lawIntE uSet hn (keyIntE (n := k) (by omega) (by omega)) unitElem_mk
  have hkl : WideAt.IsKeyLit (.int .i64 (k : Int)) := by simp [WideAt.IsKeyLit]
  refine ⟨w', hrun, ⟨_, h4, fun j => ?_⟩, h5⟩
  by_cases hjk : j = k
  · subst hjk; rw [Maps.has_put_same h1.isMap hkl]; simp
  · rw [Maps.has_put_other (by simp; omega), h2 j]; simp [hjk]
theorem look_none (k : Int) (w : World) : (Instr.lookup 117 (.map none) (.int .i64 k) true).run Tryz.prog w = .ok (.tuple #[.agg #[], .bool false]) w := by kernel_rfl

/-- Which variables stand for any type. -/
def SetAt (w : World) (l : List Nat) (m : Value) : Prop := (m = .map none ∧ l = []) ∨ ∃ b n, m = .map (some b) ∧ SetN w b n l
theorem SetAt.look {w : World} {l : List Nat} {m : Value} (h : SetAt w l m) (k : Nat) (hk : k ≤ 1000000000) :
    (Instr.lookup 117 m (.int .i64 k) true).run Tryz.prog w = .ok (.tuple #[.agg #[], .bool (decide (k ∈ l))]) w := by
  rcases h with ⟨rfl, rfl⟩ | ⟨b, n, rfl, h⟩
  · simpa using look_none k w
  · exact h.look k hk
abbrev scopeO (up : Value) (x : Bytes) (t m : Value) : Obj := .cells #[up, .string (bs x), t, m] 203 (0, 0)
/-- A scheme, its two halves. -/
def SchAt [Inhabited Low] [Inhabited Bar] (vb : List Nat) (S : Sub) (w : World) (s : Sch) (t m : Value) : Prop := TyE vb w (s.t.ap S) t ∧ SetAt w s.all m
/-- What names stand for. -/
def EnvAt [Inhabited Low] [Inhabited Bar] (vb : List Nat) (S : Sub) (w : World) : Env → Value → Prop
  | [], v => v = .pointer none
  | (x, s) :: r, v => ∃ b up t m, v = .pointer (some ⟨b, 0, none⟩) ∧ w.heap[b]? = some (scopeO up x t m) ∧ SchAt vb S w s t m ∧ EnvAt vb S w r up
/-- What M's blocks are: counters, what a watcher keeps: none of what scopes are made of. -/
def Side (M : List Nat) (w : World) : Prop := ∀ m ∈ M, ∃ cs T z, w.heap[m]? = some (.cells cs T z) ∧ T ≠ 203
theorem scopeO_ne {up t m : Value} {x : Bytes} {N : Int} {u : Value} {nm : ByteArray} : scopeO up x t m ≠ varO N u nm := by
  intro h
  simp only [Obj.cells.injEq] at h
  exact absurd h.2.1 (by decide)
theorem SetAt.keep [Inhabited Low] {M : List Nat} {w w' : World} {l : List Nat} {m : Value} (h : SetAt w l m) (k : K0 M w w') (hM : Side M w) : SetAt w' l m := by
  rcases h with h | ⟨b, n, rfl, h⟩
  · exact .inl h
  · obtain ⟨es, cl, ho⟩ := h.obj
    refine .inr ⟨b, n, rfl, h.same ((k.block _ _ ho (fun hm => ?_) (by simp)).trans ho.symm)⟩
    obtain ⟨cs, T, z, h1, _⟩ := hM b hm
    rw [ho] at h1
    cases h1
theorem EnvAt.keep [Inhabited Low] [Inhabited Bar] {M vb vb' : List Nat} {S S' : Sub} {w w' : World} (k : Stp M vb S w vb' S' w') (hM : Side M w) : ∀ {env : Env} {v : Value}, EnvAt vb S w env v → EnvAt vb' S' w' env v
  | [], _, h => h
  | (x, s) :: r, _, ⟨b, up, t, m, h1, h2, h3, h4⟩ => by
    refine ⟨b, up, t, m, h1, k.k0.block _ _ h2 (fun hm => ?_) (fun _ _ _ => scopeO_ne), ⟨k.ty _ _ h3.1, h3.2.keep k.k0 hM⟩, EnvAt.keep k hM h4⟩
    obtain ⟨cs, T, z, h1, h2'⟩ := hM b hm
    rw [h2] at h1
    cases h1
    exact h2' rfl

/-! ### Fresh variables, scopes -/
set_option maxRecDepth 100000 in
theorem vars_new [Inhabited Low] [Inhabited Bar] {ab : Nat} {vb : List Nat} {S : Sub} {w : World} (hE : Eng ab vb S w) (hfew : S.length < 100000) :
    Calls Tryz.prog 139 #[.pointer (some ⟨ab, 0, none⟩)] w fun e w' => e = .returned (.pointer (some ⟨w.heap.size, 0, none⟩)) ∧
      Stp [ab] vb S w (vb ++ [w.heap.size]) (S ++ [.var (S.length + 1)]) w' ∧ Eng ab (vb ++ [w.heap.size]) (S ++ [.var (S.length + 1)]) w' ∧ TyE (vb ++ [w.heap.size]) w' (.var (S.length + 1)) (vV w.heap.size) := by
  have c0 : w.cell? ⟨ab, 0, none⟩ = some (.int .i64 (S.length : Nat)) := cell_of_block hE.cnt 0
  have f0 : w.frozen? ⟨ab, 0, none⟩ = false := free_of_block hE.cnt 0
  have hf := hE.few
  have HE := Lib.hid hE
  clear hE
  go_enter Tryz.func139, Tryz.ntmps139
  go_wp2_with fail
  go_ret
  exact ⟨rfl, new_step HE.out hfew rfl (by simp)⟩
theorem mono_any (tt : TypeId) (tp : Value) (w : World) : Calls Tryz.prog 140 #[.iface tt tp] w fun e w' => e = .returned (.agg #[.iface tt tp, .map none]) ∧ Keeps [] w w' := by
  go_enter Tryz.func140, Tryz.ntmps140
  go_wp2_with fail
  exact bodyPost_ret (v := .agg #[.iface tt tp, .map none]) (by simp [results, Tryz.results140, go_sem]) rfl ⟨rfl, (Keeps.refl [] w).alloc _⟩
theorem with_any (up : Option Addr) (x : Bytes) (tt : TypeId) (tp : Value) (m : Option Nat) (w : World) : Calls Tryz.prog 50 #[.pointer up, .string (bs x), .agg #[.iface tt tp, .map m]] w fun e w' => ∃ b, e = .returned (.pointer (some ⟨b, 0, none⟩)) ∧ w'.heap[b]? = some (scopeO (.pointer up) x (.iface tt tp) (.map m)) ∧ Keeps [] w w' := by
  go_enter Tryz.func50, Tryz.ntmps50
  go_wp2_with fail
  go_ret
  have hb := block_alloc (w.alloc (.cells #[.iface tt tp, .map m] 119)) (scopeO (.pointer up) x (.iface tt tp) (.map m))
  have hs : (w.alloc (.cells #[.iface tt tp, .map m] 119)).heap.size = w.heap.size + 1 := by simp
  rw [hs] at hb
  exact ⟨_, rfl, hb, ((Keeps.refl [] w).alloc _).alloc _⟩
theorem SchAt.shape [Inhabited Low] [Inhabited Bar] {vb : List Nat} {S : Sub} {w : World} {s : Sch} {t m : Value} (h : SchAt vb S w s t m) : (∃ tt tp, t = .iface tt tp) ∧ ∃ mm, m = .map mm := by
  refine ⟨?_, ?_⟩
  · rcases h.1.shape with ⟨b, rfl⟩ | ⟨c, rfl⟩ <;> exact ⟨_, _, rfl⟩
  · rcases h.2 with ⟨rfl, _⟩ | ⟨b, n, rfl, _⟩ <;> exact ⟨_, rfl⟩
theorem EnvAt.shape [Inhabited Low] [Inhabited Bar] {vb : List Nat} {S : Sub} {w : World} {env : Env} {v : Value} (h : EnvAt vb S w env v) : ∃ a, v = .pointer a := by
  cases env with
  | nil => exact ⟨none, h⟩
  | cons p r => obtain ⟨b, up, t, m, h1, _⟩ := h; exact ⟨_, h1⟩
/-- A name more. -/
theorem env_with [Inhabited Low] [Inhabited Bar] {vb : List Nat} {S : Sub} {w : World} {env : Env} {v : Value} {s : Sch} {t m : Value} (h : EnvAt vb S w env v) (hs : SchAt vb S w s t m) (x : Bytes) :
    Calls Tryz.prog 50 #[v, .string (bs x), .agg #[t, m]] w fun e w' => ∃ b, e = .returned (.pointer (some ⟨b, 0, none⟩)) ∧ EnvAt vb S w' ((x, s) :: env) (.pointer (some ⟨b, 0, none⟩)) ∧ Keeps [] w w' := by
  obtain ⟨⟨tt, tp, rfl⟩, mm, rfl⟩ := hs.shape
  obtain ⟨a, rfl⟩ := h.shape
  refine (with_any a x tt tp mm w).mono ?_
  rintro e w' ⟨b, rfl, hb, hk⟩
  have hst := hk.kv0.stp vb S
  exact ⟨b, rfl, ⟨b, _, _, _, rfl, hb, ⟨hst.ty _ _ hs.1, hs.2.keep hst.k0 (fun m hm => by cases hm)⟩, EnvAt.keep hst (fun m hm => by cases hm) h⟩, hk⟩

def GetPost [Inhabited Low] [Inhabited Bar] (vb : List Nat) (S : Sub) (w : World) (r : Option Sch) (e : Ending) (w' : World) : Prop := Keeps [] w w' ∧ match r with
  | some s => ∃ t m, e = .returned (.tuple #[.agg #[t, m], .bool true]) ∧ SchAt vb S w' s t m
  | none => e = .returned (.tuple #[.agg #[.nilIface, .map none], .bool false])
set_option maxRecDepth 100000 in
set_option maxHeartbeats 4000000 in
theorem get_any [Inhabited Low] [Inhabited Bar] {vb : List Nat} {S : Sub} {w : World} {env : Env} {v : Value} (h : EnvAt vb S w env v) (x : Bytes) :
    Calls Tryz.prog 53 #[v, .string (bs x)] w (GetPost vb S w (env.lookup x)) := by
  have HE := Lib.hid h
  obtain ⟨a, rfl⟩ := h.shape
  clear h
  go_enter Tryz.func53, Tryz.ntmps53
  go_wp2_with fail
  have HB := Lib.hid (block_alloc w (.cells #[.nilIface, .map none] 119))
  have HK := Lib.hid ((Keeps.refl [] w).alloc (.cells #[.nilIface, .map none] 119))
  go_loopg [0] env.length (fun gg v wx => ∃ (rest : Env), gg = rest.length ∧ rest.lookup x = env.lookup x ∧ EnvAt vb S w rest v ∧ wx.heap[w.heap.size]? = some (.cells #[.nilIface, .map none] 119) ∧ Keeps [] w wx)
  case atStart => exact ⟨env, rfl, rfl, HE.out, HB.out, HK.out⟩
  case round =>
    obtain ⟨rest, hg, hlk, hen, hbx, hkx⟩ := hrel
    have HG := Lib.hid hg
    have HLK := Lib.hid hlk
    have HBX := Lib.hid hbx
    have HKX := Lib.hid hkx
    have hkx' := hkx
    clear hg hlk hkx
    cases rest with
    | nil =>
      obtain rfl := hen
      have r0 := cell_of_block hbx 0
      have r1 := cell_of_block hbx 1
      have y0 := free_of_block hbx 0
      have y1 := free_of_block hbx 1
      have hW := block_setCell (block_setCell hbx 0 .nilIface) 1 (.map none)
      have z0 := cell_of_block hW 0
      have z1 := cell_of_block hW 1
      simp at r0 r1 z0 z1
      clear hbx hW
      go_wp2_with fail
      have hlk := HLK.out
      simp only [List.lookup_nil] at hlk
      rw [← hlk]
      exact bodyPost_ret (v := .tuple #[.agg #[.nilIface, .map none], .bool false]) (by simp [results, Tryz.results53, go_sem, z0, z1]) rfl ⟨(hkx'.setCell (.inr (Nat.le_refl _)) _).setCell (.inr (Nat.le_refl _)) _, rfl⟩
    | cons p rest =>
      obtain ⟨y, s⟩ := p
      obtain ⟨b, up, t, m, rfl, hb, hs, hen⟩ := hen
      obtain ⟨⟨tt, tp, rfl⟩, mm, rfl⟩ := hs.shape
      obtain ⟨a', rfl⟩ := hen.shape
      have hbw := hkx'.some hb (by simp)
      have HS := Lib.hid hs
      have HEN := Lib.hid hen
      have r0 := cell_of_block hbx 0
      have r1 := cell_of_block hbx 1
      have y0 := free_of_block hbx 0
      have y1 := free_of_block hbx 1
      have u0 := cell_of_block hbw 0
      have u1 := cell_of_block hbw 1
      have u2 := cell_of_block hbw 2
      have u3 := cell_of_block hbw 3
      have hW := block_setCell (block_setCell hbx 0 (.iface tt tp)) 1 (.map mm)
      have z0 := cell_of_block hW 0
      have z1 := cell_of_block hW 1
      simp at r0 r1 z0 z1 u0 u1 u2 u3
      clear hbx hbw hs hen hb hW
      by_cases hyx : y = x
      · subst hyx
        go_wp2_with fail
        have hlk := HLK.out
        simp only [List.lookup_cons_self] at hlk
        rw [← hlk]
        have hkw := (hkx'.setCell (p := ⟨w.heap.size, 0, none⟩) (.inr (Nat.le_refl _)) (.iface tt tp)).setCell (p := ⟨w.heap.size, 1, none⟩) (.inr (Nat.le_refl _)) (.map mm)
        have hst := hkw.kv0.stp vb S
        exact bodyPost_ret (v := .tuple #[.agg #[.iface tt tp, .map mm], .bool true]) (by simp [results, Tryz.results53, go_sem, z0, z1]) rfl ⟨hkw, _, _, rfl, hst.ty _ _ HS.out.1, HS.out.2.keep hst.k0 (fun m hm => by cases hm)⟩
      · have hd : ((bs y).toList == (bs x).toList) = false := by rw [ByteArray.toList_eq, ByteArray.toList_eq, bs_data, bs_data]; exact beq_eq_false_iff_ne.2 hyx
        go_wp2_with fail
        go_roundg rest.length
        case measure => have := HG.out; simp at this; omega
        case rel => exact ⟨rest, rfl, by rw [← HLK.out, List.lookup_cons, beq_false_of_ne (Ne.symm hyx)], HEN.out, HBX.out, hkx'⟩
end Go.Proofs.YtpbplpnifjbkoabGreatDoor

namespace Go.Proofs.YtpbplpnifjbkoabGreatDoor
open Go.RowKit

/-- Variables as they stand, some more than once. -/
def occs : Ty → List Nat
  | .var n => [n]
  | .int => []
  | .bool => []
  | .list a => occs a
  | .pair a b => occs a ++ occs b
  | .arr a b => occs a ++ occs b
theorem occs_kids {t : Ty} (h : isVarT t = false) : occs t = (kidsT t).flatMap occs := by
  cases t <;> simp [occs, kidsT, isVarT] at h ⊢
theorem mem_occs (t : Ty) (v : Nat) : v ∈ occs t ↔ t.has v := by
  induction t with
  | var n => simp [occs, Ty.has]
  | int => simp [occs, Ty.has]
  | bool => simp [occs, Ty.has]
  | list a ih => exact ih
  | pair a b iha ihb => simp only [occs, Ty.has, List.mem_append, iha, ihb]
  | arr a b iha ihb => simp only [occs, Ty.has, List.mem_append, iha, ihb]
theorem occs_len (t : Ty) : (occs t).length ≤ t.size := by
  induction t with
  | var n => simp [occs, Ty.size]
  | int => simp [occs, Ty.size]
  | bool => simp [occs, Ty.size]
  | list a ih => simp only [occs, Ty.size]; omega
  | pair a b iha ihb => simp only [occs, Ty.size, List.length_append]; omega
  | arr a b iha ihb => simp only [occs, Ty.size, List.length_append]; omega

theorem kids_fit {t a : Ty} {j : Nat} (h : (kidsT t)[j]? = some a) : (((kidsT t).take j).flatMap occs).length + a.size ≤ t.size := by
  cases t with
  | var n => simp [kidsT] at h
  | int => simp [kidsT] at h
  | bool => simp [kidsT] at h
  | list x =>
    match j, h with
    | 0, h => simp [kidsT] at h; subst h; simp [Ty.size]
    | j + 1, h => simp [kidsT] at h
  | pair x y =>
    match j, h with
    | 0, h => simp [kidsT] at h; subst h; simp [Ty.size]; omega
    | 1, h => simp [kidsT] at h; subst h; have := occs_len x; simp [kidsT, Ty.size]; omega
    | j + 2, h => simp [kidsT] at h
  | arr x y =>
    match j, h with
    | 0, h => simp [kidsT] at h; subst h; simp [Ty.size]; omega
    | 1, h => simp [kidsT] at h; subst h; have := occs_len x; simp [kidsT, Ty.size]; omega
    | j + 2, h => simp [kidsT] at h

/-- What is done at each variable: its number and what it has captured; its state: what was met. -/
structure EachFn [Inhabited Low] (kf : FuncId) (caps : Array Value) (K : Nat) (st : List Nat → World → Prop) (M : List Nat) : Prop where
  call : ∀ l w (b n : Nat) nm, st l w → w.heap[b]? = some (varO n .nilIface nm) → n ≤ 1000000000 → l.length < K →
    Calls Tryz.prog kf (#[.pointer (some ⟨b, 0, none⟩)] ++ caps) w fun e w' => e = .returned (.tuple #[]) ∧ st (l ++ [n]) w' ∧ KV M w w'
  ent : ∀ (b : Nat) (w : World), (callFunc kf (#[.pointer (some ⟨b, 0, none⟩)] ++ caps)).run Tryz.prog w = .ok (.enter kf (#[.pointer (some ⟨b, 0, none⟩)] ++ caps)) w
  keep : ∀ l w w', st l w → KV [] w w' → st l w'

set_option maxRecDepth 100000 in
set_option maxHeartbeats 4000000 in
theorem each_any [Inhabited Low] [Inhabited Bar] {kf : FuncId} {caps : Array Value} {K : Nat} {st : List Nat → World → Prop} {M : List Nat} (hN : EachFn kf caps K st M) (n : Nat) : ∀ (t : Ty), t.size ≤ n → ∀ (vb : List Nat) (l : List Nat) (w : World) (v : Value), TyE vb w t v → vb.length ≤ 100000 → st l w → l.length + t.size ≤ K →
    Calls Tryz.prog 133 #[v, .func (.func kf) #[] caps] w fun e w' => e = .returned (.tuple #[]) ∧ st (l ++ occs t) w' ∧ KV M w w' := by
  induction n with
  | zero => intro t h; have := t.size_pos; omega
  | succ n ih =>
    intro t ht vb l w v hv hvb hst hlk
    obtain ⟨r, hf⟩ := hv.fnd
    have HV := Lib.hid hv
    have HF := Lib.hid hf
    have HIH := Lib.hid ih
    have HN := Lib.hid hN
    have HST := Lib.hid hst
    have hsh := hv.shape
    clear hv hf ih hN hst
    rcases hsh with ⟨vb1, rfl⟩ | ⟨vc, rfl⟩
    all_goals
      go_enter Tryz.func133, Tryz.ntmps133
      go_wp2_with fail
      first | refine (find_var HF.out).mono ?_ | refine (find_con HF.out).mono ?_
      rintro e w1 ⟨rfl, hk⟩
      have hr1 := (hk.te HV.out).res (hk.fnd _ _ HF.out)
      have HK := Lib.hid hk
      have HST1 := Lib.hid (HN.out.keep _ _ _ HST.out hk)
      clear hk HV HF HST
      by_cases hvar : isVarT t = true
      · obtain ⟨vn, rfl⟩ : ∃ vn, t = .var vn := by cases t <;> first | exact ⟨_, rfl⟩ | simp [isVarT] at hvar
        obtain ⟨b2, nm2, h1, h2, rfl, _, hb2⟩ := hr1
        have hta := swVarVar (.pointer (some ⟨b2, 0, none⟩)) 116 w1
        have hent := HN.out.ent b2
        have hvn : vn ≤ 1000000000 := by have := (List.getElem?_eq_some_iff.1 h2).1; omega
        have HCALL := Lib.hid (HN.out.call l w1 b2 vn nm2 HST1.out hb2 hvn (by simp only [Ty.size] at hlk; omega))
        clear hvar hb2 h2
        go_wp2_with fail
        refine HCALL.out.mono ?_
        rintro e w2 ⟨rfl, hst, hk⟩
        go_wp2
        exact bodyPost_end (results_none Tryz.results133 _ _ _) rfl ⟨rfl, hst, (HK.out.mono (by simp)).trans hk (fun _ h => .inl h)⟩
      · obtain ⟨c, ad, cap, vs, rfl, hc, hrow, hkids⟩ := hr1.kids (eq_false_of_ne_true hvar)
        have HHK := Lib.hid (occs_kids (eq_false_of_ne_true hvar))
        have hta := swVarCon (.pointer (some ⟨c, 0, none⟩)) 116 w1
        have hta2 := swConCon (.pointer (some ⟨c, 0, none⟩)) 116 w1
        have c1 : w1.cell? ⟨c, 1, none⟩ = some (.slice ad vs.length cap) := cell_of_block hc 1
        have hfew := kids_few t
        have hlen : vs.length ≤ 2 := by rw [hkids.1]; exact hfew
        have HR := Lib.hid hrow
        have HKD := Lib.hid hkids
        have HL := Lib.hid hkids.1
        clear hvar hr1 hc hrow hkids hfew
        go_wp2_with fail
        go_loopg [24] vs.length (fun gg i wx => ∃ j : Nat, gg = vs.length - j ∧ i = .int .i64 j ∧ j ≤ vs.length ∧ st (l ++ ((kidsT t).take j).flatMap occs) wx ∧ KV M w1 wx)
        case atStart => exact ⟨0, rfl, rfl, by omega, by simpa using HST1.out, KV.refl _ _⟩
        case round =>
          obtain ⟨j, hg, rfl, hj, hst, hk⟩ := hrel
          have HG := Lib.hid hg
          have HST2 := Lib.hid hst
          have HK2 := Lib.hid hk
          clear hg hst hk
          by_cases hlt : j < vs.length
          · have hjk : j < (kidsT t).length := by rw [← HL.out]; exact hlt
            obtain ⟨a, ha⟩ : ∃ a, (kidsT t)[j]? = some a := ⟨_, List.getElem?_eq_getElem hjk⟩
            obtain ⟨va, hva⟩ : ∃ va, vs[j]? = some va := ⟨_, List.getElem?_eq_getElem hlt⟩
            have hta2 := HK2.out.te (HKD.out.2 j a va ha hva)
            obtain ⟨g, rfl, hcell⟩ := (HK2.out.rowC HR.out).cell hva
            have hlt' := kids_lt (List.mem_of_getElem? ha)
            have HTK := Lib.hid (take_next' ha)
            have HTY := Lib.hid hta2
            have hdl : decide ((j : Int) < (vs.length : Int)) = true := by simpa using hlt
            obtain ⟨vt, vp, rfl⟩ : ∃ vt vp, va = .iface vt vp := by rcases hta2.shape with ⟨_, rfl⟩ | ⟨_, rfl⟩ <;> exact ⟨_, _, rfl⟩
            have hfit : (l ++ ((kidsT t).take j).flatMap occs).length + a.size ≤ K := by
              have h1 := kids_fit (t := t) ha
              simp only [List.length_append]
              omega
            clear hta2 ha hva hjk
            go_wp2_with fail
            refine (HIH.out a (by omega) vb _ _ _ HTY.out hvb HST2.out hfit).mono ?_
            rintro e w2 ⟨rfl, hst, hk⟩
            go_wp2_with fail
            go_roundg (vs.length - (j + 1))
            case measure => have := HG.out; omega
            case rel =>
              refine ⟨j + 1, rfl, by go_num, by omega, ?_, HK2.out.trans hk (fun _ h => .inl h)⟩
              rw [HTK.out, List.flatMap_append, ← List.append_assoc]
              simpa using hst
          · have hdl : decide ((j : Int) < (vs.length : Int)) = false := by simpa using hlt
            have hjl : (kidsT t).take j = kidsT t := List.take_of_length_le (by rw [← HL.out]; omega)
            have hst := HST2.out
            rw [hjl, ← HHK.out] at hst
            clear hjl
            go_wp2
            exact bodyPost_end (results_none Tryz.results133 _ _ _) rfl ⟨rfl, hst, (HK.out.mono (by simp)).trans HK2.out (fun _ h => .inl h)⟩
end Go.Proofs.YtpbplpnifjbkoabGreatDoor

namespace Go.Proofs.YtpbplpnifjbkoabGreatDoor
open Go.RowKit

set_option maxRecDepth 100000 in
theorem any_any [Inhabited Low] {w : World} {t : Value} {m : Value} {l : List Nat} (hm : SetAt w l m) {b n : Nat} {u : Value} {nm : ByteArray} (hb : w.heap[b]? = some (varO n u nm)) (hn : n ≤ 1000000000) (ht : ∃ tt tp, t = .iface tt tp) :
    Calls Tryz.prog 135 #[.agg #[t, m], .pointer (some ⟨b, 0, none⟩)] w fun e w' => e = .returned (.bool (decide (n ∈ l))) ∧ Keeps [] w w' := by
  have c0 : w.cell? ⟨b, 0, none⟩ = some (.int .i64 n) := cell_of_block hb 0
  obtain ⟨mm, rfl⟩ : ∃ mm, m = .map mm := by rcases hm with ⟨rfl, _⟩ | ⟨b, n, rfl, _⟩ <;> exact ⟨_, rfl⟩
  obtain ⟨tt, tp, rfl⟩ := ht
  have hka := ((Keeps.refl [] w).alloc (.cells #[.iface tt tp, .map mm] 119)).alloc (.cells #[] 277)
  have hm1 := hm.keep hka.kv0.k0 (fun m hm => by cases hm)
  have hl1 := hm1.look n hn
  have hl2 := (hm1.keep (Keeps.refl [] _).drew.kv0.k0 (fun m hm => by cases hm)).look n hn
  have d0 := hka.cellSome c0 (by simp)
  have hbx := block_alloc_old (o' := .cells #[] 277) (block_alloc w (.cells #[.iface tt tp, .map mm] 119))
  have d1 := cell_of_block hbx 0
  have d2 := cell_of_block hbx 1
  have hkb := (Keeps.refl [] w).alloc (.cells #[.iface tt tp, .map mm] 119)
  have hm2 := hm.keep hkb.kv0.k0 (fun m hm => by cases hm)
  have hl3 := hm2.look n hn
  have hl4 := (hm2.keep (Keeps.refl [] _).drew.kv0.k0 (fun m hm => by cases hm)).look n hn
  have e0 := hkb.cellSome c0 (by simp)
  have e1 := cell_of_block (block_alloc w (.cells #[.iface tt tp, .map mm] 119)) 0
  have e2 := cell_of_block (block_alloc w (.cells #[.iface tt tp, .map mm] 119)) 1
  have HK := Lib.hid hka
  simp at d1 d2 e1 e2
  clear hm hb hka hm1 hbx hm2 hkb
  go_enter Tryz.func135, Tryz.ntmps135
  go_wp2_with fail
  go_region
  all_goals
    go_wp2
    go_ret
    exact ⟨rfl, HK.out.drew⟩

theorem ne_objE {w : World} {a b : Nat} {o o' : Obj} (h : w.heap[a]? = some o) (h' : w.heap[b]? = some o') (hne : o ≠ o') : a ≠ b := by
  rintro rfl
  rw [h] at h'
  exact hne (by simpa using h')
theorem map_kv [Inhabited Low] {w w' : World} {fm : Nat} (h : Keeps [fm] w w') (ho : ∀ o, w.heap[fm]? = some o → ∀ cs T z, o ≠ .cells cs T z) : KV [fm] w w' :=
  h.kv fun m hm o hmo => by
    simp only [List.mem_singleton] at hm
    subst hm
    intro cs T z e
    exact (ho o hmo cs T z e).elim
/-- The first closure's state: what it has captured; the set of free variables so far. -/
def ClA [Inhabited Low] (sbx fbx sb fm n0 : Nat) (up tv m : Value) (x : Bytes) (all base l : List Nat) (w : World) : Prop :=
  w.heap[sbx]? = some (.cells #[.pointer (some ⟨sb, 0, none⟩)] 114) ∧ w.heap[fbx]? = some (.cells #[.map (some fm)] 117) ∧ w.heap[sb]? = some (scopeO up x tv m) ∧ SetAt w all m ∧ (∀ mb, m = .map (some mb) → mb ≠ fm) ∧
    ∃ n, n ≤ n0 + l.length ∧ SetN w fm n (base ++ l.filter fun v => decide (v ∉ all))
set_option maxRecDepth 100000 in
set_option maxHeartbeats 4000000 in
theorem close1_each [Inhabited Low] (sbx fbx sb fm n0 K : Nat) (up tv m : Value) (x : Bytes) (all base : List Nat) (hup : ∃ a, up = .pointer a) (htv : ∃ tt tp, tv = .iface tt tp) (hK : n0 + K ≤ 1000000000) :
    EachFn 134 #[.pointer (some ⟨sbx, 0, none⟩), .pointer (some ⟨fbx, 0, none⟩)] K (ClA sbx fbx sb fm n0 up tv m x all base) [fm] := by
  refine ⟨fun l w b n nm hst hb hn hl => ?_, fun b w => by kernel_rfl, fun l w w' hst hk => ?_⟩
  · obtain ⟨h1, h2, h3, h4, h5, k, hk, h6⟩ := hst
    obtain ⟨a, rfl⟩ := hup
    obtain ⟨tt, tp, rfl⟩ := htv
    have s0 := cell_of_block h1 0
    have f0 := cell_of_block h2 0
    have u2 := cell_of_block h3 2
    have u3 := cell_of_block h3 3
    obtain ⟨mm, rfl⟩ : ∃ mm, m = .map mm := by rcases h4 with ⟨rfl, _⟩ | ⟨b, n, rfl, _⟩ <;> exact ⟨_, rfl⟩
    have b0 : w.cell? ⟨b, 0, none⟩ = some (.int .i64 n) := cell_of_block hb 0
    simp at s0 f0 u2 u3
    have HCALL := Lib.hid (fun (W : World) (hW : Keeps [] w W) => any_any (h4.keep hW.kv0.k0 (fun m hm => by cases hm)) (hW.some hb (by simp)) hn ⟨tt, tp, rfl⟩)
    have H1 := Lib.hid h1
    have H2 := Lib.hid h2
    have H3 := Lib.hid h3
    have H4 := Lib.hid h4
    have H6 := Lib.hid h6
    have HBB := Lib.hid hb
    clear h1 h2 h3 h4 h6 hb
    show Calls Tryz.prog 134 #[.pointer (some ⟨b, 0, none⟩), .pointer (some ⟨sbx, 0, none⟩), .pointer (some ⟨fbx, 0, none⟩)] w _
    go_enter Tryz.func134, Tryz.ntmps134
    go_wp2_with fail
    refine (HCALL.out w (Keeps.refl [] w)).mono ?_
    rintro e w1 ⟨rfl, hk1⟩
    have HK1 := Lib.hid hk1
    clear s0 f0 u2 u3 b0
    have f0 := cell_of_block (hk1.some H2.out (by simp)) 0
    have b0 := cell_of_block (hk1.some HBB.out (by simp)) 0
    obtain ⟨es, cl, ho⟩ := H6.out.obj
    have h6' := H6.out.same ((hk1.some ho (by simp)).trans ho.symm)
    have H6' := Lib.hid h6'
    simp at f0 b0
    clear hk1 ho
    by_cases hna : n ∈ all
    · have hd : decide (n ∈ all) = true := by simpa using hna
      rw [hd]
      clear h6'
      go_wp2
      refine bodyPost_end (results_none Tryz.results134 _ _ _) rfl ⟨rfl, ⟨HK1.out.some H1.out (by simp), HK1.out.some H2.out (by simp), HK1.out.some H3.out (by simp), H4.out.keep HK1.out.kv0.k0 (fun m hm => by cases hm), h5, k, by simp; omega, ?_⟩, (HK1.out.kv0).mono (by simp)⟩
      have := H6'.out
      rw [List.filter_append]
      simpa [hna] using this
    · have hd : decide (n ∈ all) = false := by simpa using hna
      rw [hd]
      obtain ⟨w2, hrun, hset, hgr⟩ := (h6'.same (w' := w1.drew) rfl).store (by unfold maxLen; omega) n hn
      have HSET := Lib.hid hset
      have HGR := Lib.hid hgr
      clear h6' hset hgr
      go_wp2_with fail
      go_region
      all_goals
        go_wp2
        have hkf : Keeps [fm] w w2 := (((HK1.out.mono (by simp)).drew).grown HGR.out (fun k e => .inl (by simp at e; simp [e])))
        obtain ⟨es, cl, ho⟩ := H6.out.obj
        have hkv : KV [fm] w w2 := map_kv hkf fun o hmo cs T z e => by rw [ho] at hmo; cases hmo; cases e
        have n1 : sbx ∉ [fm] := by simp; exact ne_objE H1.out ho (by simp)
        have n2 : fbx ∉ [fm] := by simp; exact ne_objE H2.out ho (by simp)
        have n3 : sb ∉ [fm] := by simp; exact ne_objE H3.out ho (by simp)
        refine bodyPost_end (results_none Tryz.results134 _ _ _) rfl ⟨rfl, ⟨hkf.some H1.out n1, hkf.some H2.out n2, hkf.some H3.out n3, ?_, h5, k + 1, by simp; omega, ?_⟩, hkv⟩
        · rcases H4.out with h | ⟨mb, mn, e, h⟩
          · exact .inl h
          · obtain ⟨es', cl', ho'⟩ := h.obj
            exact .inr ⟨mb, mn, e, h.same ((hkf.some ho' (by simp; exact h5 mb e)).trans ho'.symm)⟩
        · have := HSET.out
          rw [List.filter_append]
          simpa [hna, List.append_assoc] using this
  · obtain ⟨h1, h2, h3, h4, h5, k, hk', h6⟩ := hst
    obtain ⟨es, cl, ho⟩ := h6.obj
    exact ⟨hk.blk h1 (by simp) (by simp), hk.blk h2 (by simp) (by simp), hk.blk h3 (by simp) (fun _ _ _ => scopeO_ne), h4.keep hk.k0 (fun m hm => by cases hm), h5, k, hk', h6.same ((hk.blk ho (by simp) (by simp)).trans ho.symm)⟩

/-- The second closure's state. -/
def ClB (fbx obx fm om nf : Nat) (tv : Value) (frees l : List Nat) (w : World) : Prop :=
  w.heap[fbx]? = some (.cells #[.map (some fm)] 117) ∧ w.heap[obx]? = some (.cells #[tv, .map (some om)] 119) ∧ SetN w fm nf frees ∧ om ≠ fm ∧
    ∃ n, n ≤ l.length ∧ SetN w om n (l.filter fun v => decide (v ∉ frees))
set_option maxRecDepth 100000 in
set_option maxHeartbeats 4000000 in
theorem close2_each [Inhabited Low] (fbx obx fm om nf K : Nat) (tv : Value) (frees : List Nat) (hK : K ≤ 1000000000) :
    EachFn 136 #[.pointer (some ⟨fbx, 0, none⟩), .pointer (some ⟨obx, 0, none⟩)] K (ClB fbx obx fm om nf tv frees) [om] := by
  refine ⟨fun l w b n nm hst hb hn hl => ?_, fun b w => by kernel_rfl, fun l w w' hst hk => ?_⟩
  · obtain ⟨h1, h2, h3, h4, k, hk, h6⟩ := hst
    have f0 := cell_of_block h1 0
    have o1 := cell_of_block h2 1
    have b0 : w.cell? ⟨b, 0, none⟩ = some (.int .i64 n) := cell_of_block hb 0
    simp at f0 o1
    have hl1 := h3.look n hn
    have hl2 := (h3.same (w' := w.drew) rfl).look n hn
    have hka := (Keeps.refl [] w).alloc (.cells #[] 277)
    obtain ⟨es, cl, ho⟩ := h3.obj
    have hl3 := (h3.same ((hka.some ho (by simp)).trans ho.symm)).look n hn
    have hl4 := (h3.same ((hka.drew.some ho (by simp)).trans ho.symm)).look n hn
    have f1 := hka.cellSome f0 (by simp)
    have b1 := hka.cellSome b0 (by simp)
    have o2 := hka.cellSome o1 (by simp)
    have H1 := Lib.hid h1
    have H2 := Lib.hid h2
    have H3 := Lib.hid h3
    have H6 := Lib.hid h6
    have HKA := Lib.hid hka
    clear h1 h2 h3 h6 hb ho hka
    show Calls Tryz.prog 136 #[.pointer (some ⟨b, 0, none⟩), .pointer (some ⟨fbx, 0, none⟩), .pointer (some ⟨obx, 0, none⟩)] w _
    by_cases hna : n ∈ frees
    · have hd : decide (n ∈ frees) = true := by simpa using hna
      go_enter Tryz.func136, Tryz.ntmps136
      go_wp2_with fail
      go_region
      all_goals
        go_wp2_with fail
        obtain ⟨es, cl, ho⟩ := H3.out.obj
        obtain ⟨es', cl', ho'⟩ := H6.out.obj
        have hkw := HKA.out.drew
        refine bodyPost_end (results_none Tryz.results136 _ _ _) rfl ⟨rfl, ⟨hkw.some H1.out (by simp), hkw.some H2.out (by simp), H3.out.same ((hkw.some ho (by simp)).trans ho.symm), h4, k, by simp; omega, ?_⟩, hkw.kv0.mono (by simp)⟩
        have := H6.out.same ((hkw.some ho' (by simp)).trans ho'.symm)
        rw [List.filter_append]
        simpa [hna] using this
    · have hd : decide (n ∈ frees) = false := by simpa using hna
      have hset0 : SetN (w.alloc (.cells #[] 277)).drew.drew om k (l.filter fun v => decide (v ∉ frees)) := by
        obtain ⟨es', cl', ho'⟩ := H6.out.obj
        exact H6.out.same ((HKA.out.drew.drew.some ho' (by simp)).trans ho'.symm)
      obtain ⟨w2, hrun, hset, hgr⟩ := hset0.store (by unfold maxLen; omega) n hn
      have HSET := Lib.hid hset
      have HGR := Lib.hid hgr
      clear hset hgr hset0
      go_enter Tryz.func136, Tryz.ntmps136
      go_wp2_with fail
      go_region
      all_goals
        go_wp2_with fail
        go_region
        all_goals
          go_wp2_with fail
          obtain ⟨es, cl, ho⟩ := H3.out.obj
          obtain ⟨es', cl', ho'⟩ := H6.out.obj
          have hkf : Keeps [om] w w2 := ((HKA.out.drew.drew.mono (by simp)).grown HGR.out (fun k e => .inl (by simp at e; simp [e])))
          have hkv : KV [om] w w2 := map_kv hkf fun o hmo cs T z e => by rw [ho'] at hmo; cases hmo; cases e
          have n1 : fbx ∉ [om] := by simp; exact ne_objE H1.out ho' (by simp)
          have n2 : obx ∉ [om] := by simp; exact ne_objE H2.out ho' (by simp)
          refine bodyPost_end (results_none Tryz.results136 _ _ _) rfl ⟨rfl, ⟨hkf.some H1.out n1, hkf.some H2.out n2, H3.out.same ((hkf.some ho (by simp; exact Ne.symm h4)).trans ho.symm), h4, k + 1, by simp; omega, ?_⟩, hkv⟩
          have := HSET.out
          rw [List.filter_append]
          simpa [hna] using this
  · obtain ⟨h1, h2, h3, h4, k, hk', h6⟩ := hst
    obtain ⟨es, cl, ho⟩ := h6.obj
    obtain ⟨es', cl', ho'⟩ := h3.obj
    exact ⟨hk.blk h1 (by simp) (by simp), hk.blk h2 (by simp) (by simp), h3.same ((hk.blk ho' (by simp) (by simp)).trans ho'.symm), h4, k, hk', h6.same ((hk.blk ho (by simp) (by simp)).trans ho.symm)⟩

/-- The variables that are free in names' types. -/
def freesOf (S : Sub) : Env → List Nat
  | [] => []
  | (_, s) :: r => (occs (s.t.ap S)).filter (fun v => decide (v ∉ s.all)) ++ freesOf S r
theorem hasB_has (x : Nat) (t : Ty) : t.hasB x = true ↔ t.has x := by
  induction t with
  | var n => simp [Ty.hasB, Ty.has]
  | int => simp [Ty.hasB, Ty.has]
  | bool => simp [Ty.hasB, Ty.has]
  | list a ih => exact ih
  | pair a b iha ihb => simp only [Ty.hasB, Ty.has, Bool.or_eq_true, iha, ihb]
  | arr a b iha ihb => simp only [Ty.hasB, Ty.has, Bool.or_eq_true, iha, ihb]
theorem mem_frees (S : Sub) (env : Env) (v : Nat) : v ∈ freesOf S env ↔ freeIn S env v = true := by
  induction env with
  | nil => simp [freesOf, freeIn]
  | cons p r ih =>
    obtain ⟨x, s⟩ := p
    simp only [freesOf, freeIn, List.mem_append, List.mem_filter, mem_occs, decide_eq_true_eq, Bool.or_eq_true, Bool.and_eq_true, hasB_has, Bool.not_eq_true', List.contains_eq_mem, decide_eq_false_iff_not, ih]
theorem mem_gen (S : Sub) (env : Env) (t : Ty) (v : Nat) : v ∈ (gen S env t).all ↔ v ∈ (occs (t.ap S)).filter fun v => decide (v ∉ freesOf S env) := by
  simp only [gen, List.mem_filter, mem_varsL, List.not_mem_nil, false_or, mem_occs, decide_eq_true_eq, mem_frees, Bool.not_eq_true', Bool.not_eq_true]

set_option maxRecDepth 100000 in
set_option maxHeartbeats 4000000 in
theorem close_any [Inhabited Low] [Inhabited Bar] {ab : Nat} {vb : List Nat} {S : Sub} {w : World} {env : Env} {ev v : Value} {t : Ty} (hE : Eng ab vb S w) (henv : EnvAt vb S w env ev) (hv : TyE vb w (t.ap S) v) (hsz : envSize S env + (t.ap S).size ≤ 100000) :
    Calls Tryz.prog 90 #[ev, v] w fun e w' => ∃ m, e = .returned (.agg #[v, m]) ∧ SetAt w' (gen S env t).all m ∧ KV [] w w' := by
  obtain ⟨a, rfl⟩ := henv.shape
  obtain ⟨tt, tp, rfl⟩ : ∃ vt vp, v = .iface vt vp := by rcases hv.shape with ⟨_, rfl⟩ | ⟨_, rfl⟩ <;> exact ⟨_, _, rfl⟩
  have hmm := @run_makeMap Tryz.prog
  have hmf : ∀ (fn : Fn) (first cap : Array Value) (w : World), (Instr.makeFunc fn first cap).run Tryz.prog w = .ok (.func fn first cap) w := fun _ _ _ _ => rfl
  have k0 := (((Keeps.refl [] w).alloc (.cells #[.nilIface, .map none] 119)).alloc (.map #[] 0)).alloc (.cells #[.map (some (w.heap.size + 1))] 117)
  have K3 := Lib.hid (k0.alloc (.cells #[.pointer a] 114))
  have hs1 : (w.alloc (.cells #[.nilIface, .map none] 119)).heap.size = w.heap.size + 1 := by simp
  have hs2 : ((w.alloc (.cells #[.nilIface, .map none] 119)).alloc (.map #[] 0)).heap.size = w.heap.size + 1 + 1 := by simp
  have hs3 : (((w.alloc (.cells #[.nilIface, .map none] 119)).alloc (.map #[] 0)).alloc (.cells #[.map (some (w.heap.size + 1))] 117)).heap.size = w.heap.size + 1 + 1 + 1 := by simp
  have q0 := block_alloc_old (o' := .cells #[.pointer a] 114) (block_alloc_old (o' := .cells #[.map (some (w.heap.size + 1))] 117) (block_alloc_old (o' := .map #[] 0) (block_alloc w (.cells #[.nilIface, .map none] 119))))
  have q2 := block_alloc_old (o' := .cells #[.pointer a] 114) (block_alloc ((w.alloc (.cells #[.nilIface, .map none] 119)).alloc (.map #[] 0)) (.cells #[.map (some (w.heap.size + 1))] 117))
  have q3 := block_alloc (((w.alloc (.cells #[.nilIface, .map none] 119)).alloc (.map #[] 0)).alloc (.cells #[.map (some (w.heap.size + 1))] 117)) (.cells #[.pointer a] 114)
  have qm := SetN.made (w.alloc (.cells #[.nilIface, .map none] 119))
  rw [hs1] at qm
  rw [hs2] at q2
  rw [hs3] at q3
  have qm2 : SetN ((((w.alloc (.cells #[.nilIface, .map none] 119)).alloc (.map #[] 0)).alloc (.cells #[.map (some (w.heap.size + 1))] 117)).alloc (.cells #[.pointer a] 114)) (w.heap.size + 1) 0 [] :=
    qm.same (by rw [Below.heap_alloc _ _ _ (by simp), Below.heap_alloc _ _ _ (by simp)])
  have Q0 := Lib.hid q0
  have Q2 := Lib.hid q2
  have Q3 := Lib.hid q3
  have QM := Lib.hid qm2
  have HE := Lib.hid hE
  have HENV := Lib.hid henv
  have HV := Lib.hid hv
  have HSZ := Lib.hid hsz
  clear k0 hs1 hs2 hs3 q0 q2 q3 qm qm2 hE henv hv hsz
  go_enter Tryz.func90, Tryz.ntmps90
  go_wp2_with fail
  go_loopg [6] env.length (fun gg sv wx => ∃ (rest : Env) (cur : Value) (bx n : Nat) (l : List Nat), gg = rest.length ∧ sv = .pointer (some ⟨bx, 0, none⟩) ∧ wx.heap[bx]? = some (.cells #[cur] 114) ∧ EnvAt vb S w rest cur ∧ w.heap.size + 3 ≤ bx ∧
    wx.heap[w.heap.size]? = some (.cells #[.nilIface, .map none] 119) ∧ wx.heap[w.heap.size + 2]? = some (.cells #[.map (some (w.heap.size + 1))] 117) ∧
    SetN wx (w.heap.size + 1) n l ∧ n + envSize S rest ≤ 100000 ∧ l ++ freesOf S rest = freesOf S env ∧ KV [] w wx)
  case atStart => exact ⟨env, _, _, 0, [], rfl, rfl, Q3.out, HENV.out, by omega, Q0.out, Q2.out, QM.out, by have := HSZ.out; omega, by simp, K3.out.kv0⟩
  case round =>
    obtain ⟨rest, cur, bx, n, l, hg, rfl, hbx, hen, hbl, h0, h2, hset, hn, hl, hkx⟩ := hrel
    have HG := Lib.hid hg
    have HL := Lib.hid hl
    have HBX := Lib.hid hbx
    have H0 := Lib.hid h0
    have H2 := Lib.hid h2
    have HSET := Lib.hid hset
    have HKX := Lib.hid hkx
    have HN := Lib.hid hn
    cases rest with
    | nil =>
      obtain rfl := hen
      have x0 := cell_of_block hbx 0
      simp at x0
      have hset2 : SetN (wr.alloc (.map #[] 0)) wr.heap.size 0 [] := SetN.made wr
      have hka := ((Keeps.refl [] wr).alloc (.map #[] 0)).alloc (.cells #[.iface tt tp, .map (some wr.heap.size)] 119)
      have hs1 : (wr.alloc (.map #[] 0)).heap.size = wr.heap.size + 1 := by simp
      have hob := block_alloc (wr.alloc (.map #[] 0)) (.cells #[.iface tt tp, .map (some wr.heap.size)] 119)
      rw [hs1] at hob
      obtain ⟨es, cl, ho⟩ := hset.obj
      have hltm := lt_of_some ho
      have hst : ClB (w.heap.size + 2) (wr.heap.size + 1) (w.heap.size + 1) wr.heap.size n (.iface tt tp) l [] ((wr.alloc (.map #[] 0)).alloc (.cells #[.iface tt tp, .map (some wr.heap.size)] 119)) :=
        ⟨hka.some h2 (by simp), hob, hset.same ((hka.some ho (by simp)).trans ho.symm), by omega, 0, by simp, by simpa using hset2.same (by rw [Below.heap_alloc _ _ _ (by simp)])⟩
      have hvb : vb.length ≤ 100000 := by rw [HE.out.len]; exact HE.out.few
      have HCALL := Lib.hid (each_any (close2_each (w.heap.size + 2) (wr.heap.size + 1) (w.heap.size + 1) wr.heap.size n 1000000 (.iface tt tp) l (by omega)) (t.ap S).size (t.ap S) (Nat.le_refl _) vb [] _ _ (hka.kv0.te (hkx.te HV.out)) hvb hst (by have := HSZ.out; simp; omega))
      have HKA := Lib.hid hka
      clear hg hl hbx h0 h2 hset hkx hn hset2 hka hs1 hob hst ho hltm
      go_wp2_with fail
      refine HCALL.out.mono ?_
      rintro e w2 ⟨rfl, hst, hk2⟩
      obtain ⟨_, hob2, _, _, k2, _, hset2⟩ := hst
      have hnm : w.heap.size ∉ [wr.heap.size] := by
        have := lt_of_some H0.out
        simp; omega
      have h02 := hk2.blk (HKA.out.some H0.out (by simp)) hnm (by simp)
      have r0 := cell_of_block h02 0
      have r1 := cell_of_block h02 1
      have y0 := free_of_block h02 0
      have y1 := free_of_block h02 1
      have o0 := cell_of_block hob2 0
      have o1 := cell_of_block hob2 1
      have hW := block_setCell (block_setCell h02 0 (.iface tt tp)) 1 (.map (some wr.heap.size))
      have z0 := cell_of_block hW 0
      have z1 := cell_of_block hW 1
      simp at r0 r1 o0 o1 z0 z1
      have HS2 := Lib.hid hset2
      have HK2 := Lib.hid hk2
      have HL2 := Lib.hid (HL.out)
      clear hob2 h02 hW hset2 hk2 hnm
      go_wp2_with fail
      have hkz : Keeps [w.heap.size] w2 ((w2.setCell ⟨w.heap.size, 0, none⟩ (.iface tt tp)).setCell ⟨w.heap.size, 1, none⟩ (.map (some wr.heap.size))) := ((Keeps.refl _ w2).setCell (.inl (by simp)) _).setCell (.inl (by simp)) _
      have hlt : w.heap.size < wr.heap.size := lt_of_some H0.out
      have hkv : KV [] w w2 := (HKX.out.trans0 HKA.out.kv0).trans HK2.out (fun m hm => .inr (by simp only [List.mem_singleton] at hm; subst hm; omega))
      obtain ⟨es, cl, ho⟩ := HS2.out.obj
      have hle : l = freesOf S env := by have := HL2.out; simpa [freesOf] using this
      have hset : SetN ((w2.setCell ⟨w.heap.size, 0, none⟩ (.iface tt tp)).setCell ⟨w.heap.size, 1, none⟩ (.map (some wr.heap.size))) wr.heap.size k2 (gen S env t).all :=
        (HS2.out.same ((hkz.some ho (by simp; omega)).trans ho.symm)).iff fun v => by rw [mem_gen, hle]; simp
      refine bodyPost_ret (v := .agg #[.iface tt tp, .map (some wr.heap.size)]) (by simp [results, Tryz.results90, go_sem, z0, z1]) rfl ⟨_, rfl, .inr ⟨_, _, rfl, hset⟩, ?_⟩
      refine KV.frame hkv hkz (fun m hm => .inr (by simp only [List.mem_singleton] at hm; subst hm; exact Nat.le_refl _)) fun m hm o ho' => ?_
      simp only [List.mem_singleton] at hm
      subst hm
      have h02 := HK2.out.blk (HKA.out.some H0.out (by simp)) (by simp; omega) (by simp)
      rw [h02] at ho'
      cases ho'
      intro cs T z e
      cases e
      exact ⟨by decide, by decide, by decide⟩
    | cons p rest =>
      obtain ⟨y, s⟩ := p
      obtain ⟨b, up, tv, m, rfl, hb, hs, hen⟩ := hen
      obtain ⟨⟨t1, t2, rfl⟩, mm, rfl⟩ := hs.shape
      obtain ⟨a', rfl⟩ := hen.shape
      have hbw := hkx.blk hb (by simp) (fun _ _ _ => scopeO_ne)
      have hsw : SchAt vb S wr s (.iface t1 t2) (.map mm) := ⟨(hkx.stp vb S).ty _ _ hs.1, hs.2.keep hkx.k0 (fun m hm => by cases hm)⟩
      have hmb : ∀ mb, Value.map mm = .map (some mb) → mb ≠ w.heap.size + 1 := by
        intro mb e
        rcases hs.2 with ⟨h, _⟩ | ⟨mb', n', h, h'⟩
        · rw [h] at e; cases e
        · rw [h] at e; cases e
          obtain ⟨es, cl, ho⟩ := h'.obj
          have := lt_of_some ho
          omega
      have x0 := cell_of_block hbx 0
      have u0 := cell_of_block hbw 0
      have u2 := cell_of_block hbw 2
      simp at x0 u0 u2
      have HB := Lib.hid hbw
      have HEN := Lib.hid hen
      have hst : ClA bx (w.heap.size + 2) b (w.heap.size + 1) n (.pointer a') (.iface t1 t2) (.map mm) y s.all l [] wr :=
        ⟨hbx, h2, hbw, hsw.2, hmb, n, by simp, by simpa using hset⟩
      have hvb : vb.length ≤ 100000 := by rw [HE.out.len]; exact HE.out.few
      have hszs : (s.t.ap S).size + envSize S rest + n ≤ 100000 := by have := hn; simp only [envSize] at this; omega
      have HCALL := Lib.hid (each_any (close1_each bx (w.heap.size + 2) b (w.heap.size + 1) n 1000000 (.pointer a') (.iface t1 t2) (.map mm) y s.all l ⟨_, rfl⟩ ⟨_, _, rfl⟩ (by omega)) (s.t.ap S).size (s.t.ap S) (Nat.le_refl _) vb [] _ _ hsw.1 hvb hst (by simp; omega))
      clear hg hl hbx h0 h2 hset hkx hn hb hs hen hst hbw hsw hmb
      go_wp2_with fail
      refine HCALL.out.mono ?_
      rintro e w2 ⟨rfl, ⟨hbx2, hfx2, hb2, _, _, k, hk, hset2⟩, hk2⟩
      have HBX2 := Lib.hid hbx2
      have HFX2 := Lib.hid hfx2
      have HSET2 := Lib.hid hset2
      have HK2 := Lib.hid hk2
      clear x0 u0 u2
      have hkb := (Keeps.refl [] w2).alloc (.cells #[.pointer (some ⟨b, 0, none⟩)] 114)
      have hnb := block_alloc w2 (.cells #[.pointer (some ⟨b, 0, none⟩)] 114)
      have x0 := cell_of_block hbx2 0
      have u0 := hkb.cellSome (cell_of_block hb2 0) (by simp)
      have y1 := cell_of_block hnb 0
      have y2 := free_of_block hnb 0
      simp at x0 u0 y1
      clear hbx2 hfx2 hset2 hk2 hb2 hkb hnb
      go_wp2_with fail
      have hkc := (Keeps.refl [] w2).alloc (.cells #[.pointer a'] 114)
      have hlt : w.heap.size < wr.heap.size := lt_of_some H0.out
      have hlt2 : wr.heap.size ≤ w2.heap.size := HK2.out.size
      have hnm : w.heap.size ∉ [w.heap.size + 1] := by simp
      obtain ⟨es, cl, ho⟩ := HSET2.out.obj
      go_roundg rest.length
      case measure => have := HG.out; simp at this; omega
      case rel =>
        refine ⟨rest, .pointer a', w2.heap.size, k, _, rfl, rfl, block_alloc w2 _, HEN.out, ?_, hkc.some (HK2.out.blk H0.out hnm (by simp)) (by simp), hkc.some HFX2.out (by simp), HSET2.out.same ((hkc.some ho (by simp)).trans ho.symm), ?_, ?_, ?_⟩
        · have := lt_of_some HBX.out; omega
        · have h1 := occs_len (s.t.ap S)
          simp at hk
          omega
        · rw [← HL.out]
          simp only [freesOf, List.nil_append, List.append_assoc]
        · exact (HKX.out.trans HK2.out (fun m hm => .inr (by simp only [List.mem_singleton] at hm; subst hm; omega))).trans0 hkc.kv0
end Go.Proofs.YtpbplpnifjbkoabGreatDoor
