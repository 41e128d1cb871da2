/-
  Maps from names to types' texts, as functions.
-/
import Derived.Test.YtpbplpnifjbkoaaGreatDoorTred
import Derived.Sort.KeysCollected
import Derived.Test.YtpbplpnifjbkoaaGreatDoorTcan
import Derived.Test.YtpbplpnifjbkoaaGreatDoorTrd
import Derived.Test.YtpbplpnifjbkoaaGreatDoorPlainShow
import Derived.Test.YtpbplpnifjbkoaaGreatDoorPaRec
import Derived.Test.YtpbplpnifjbkoaaGreatDoorIter
namespace Go.Proofs.YtpbplpnifjbkoaaGreatDoor
open Go.RowKit
open Go.Maps (Keyed string_keyed)

theorem uTm : Tryz.prog.underlying 71 = some (.map 9 76) := by kernel_rfl
theorem zTm (w : World) : (zeroValue 76).run Tryz.prog w = .ok (.agg #[.string ⟨#[]⟩]) w := by kernel_rfl
abbrev tyV (t : Bytes) : Value := .agg #[.string (bs t)]
/-- How such an element reads. -/
def tyElem : Value → Option (DataW Unit × List MemPlace)
  | .agg ⟨[.string s]⟩ => some (.lit (.string s.data.toList), [])
  | _ => none
theorem tyElem_of (t : Bytes) : tyElem (tyV t) = some (.lit (.string t), []) := by simp [tyElem, bs_data]
theorem tyElem_inv {v : Value} {t : Bytes} {ps : List MemPlace} (h : tyElem v = some (.lit (.string t), ps)) : v = tyV t := by
  unfold tyElem at h
  split at h
  · rename_i s
    simp only [Option.some.injEq, Prod.mk.injEq, DataW.lit.injEq, Lit.string.injEq] at h
    rw [← h.1]
    show Value.agg #[.string s] = .agg #[.string (bs s.data.toList)]
    rw [bs_of]
  · cases h
/-- Block b is a map of at most n entries that sends names to texts as f does. -/
def TMap (w : World) (b n : Nat) (f : Bytes → Option Bytes) : Prop :=
  ∃ D, w.ownsMap Tryz.prog 9 tyElem b n D ∧ ∀ x : Bytes, Maps.has D (.string x) = (f x).isSome ∧ D.atKey (.string x) (.lit (.string [])) = .lit (.string ((f x).getD []))
theorem TMap.made (w : World) : TMap (w.alloc (.map #[] 0)) w.heap.size 0 fun _ => none := ⟨_, World.ownsMap_made _ _ _ _, fun _x => ⟨rfl, rfl⟩⟩
theorem TMap.lt {w : World} {b n : Nat} {f : Bytes → Option Bytes} (h : TMap w b n f) : b < w.heap.size := by obtain ⟨D, h, _⟩ := h; exact h.lt
theorem TMap.same {w w' : World} {b n : Nat} {f : Bytes → Option Bytes} (h : TMap w b n f) (hb : w'.heap[b]? = w.heap[b]?) : TMap w' b n f := by
  obtain ⟨D, ⟨es, clock, h1, h2⟩, h3⟩ := h
  exact ⟨D, ⟨es, clock, hb.trans h1, h2⟩, h3⟩
theorem TMap.obj {w : World} {b n : Nat} {f : Bytes → Option Bytes} (h : TMap w b n f) : ∃ es cl, w.heap[b]? = some (.map es cl) := by
  obtain ⟨D, ⟨es, clock, h1, h2⟩, h3⟩ := h
  exact ⟨es, clock, h1⟩
theorem TMap.look {w : World} {b n : Nat} {f : Bytes → Option Bytes} (h : TMap w b n f) (s : ByteArray) (hs : s.size ≤ maxLen) :
    (Instr.lookup 71 (.map (some b)) (.string s) true).run Tryz.prog w = .ok (.tuple #[tyV ((f s.data.toList).getD []), .bool (f s.data.toList).isSome]) w := by
  obtain ⟨D, h1, h2⟩ := h
  obtain ⟨v, ps, hrun, hv⟩ := h1.look_ok lawString uTm (zTm w) (zd := .lit (.string [])) (zp := []) (tyElem_of []) (WideMaps.keyOf_string_mk uString hs)
  rw [(h2 _).2] at hv
  rw [(h2 _).1, tyElem_inv hv] at hrun
  exact hrun
theorem TMap.look1 {w : World} {b n : Nat} {f : Bytes → Option Bytes} (h : TMap w b n f) (s : ByteArray) (hs : s.size ≤ maxLen) :
    (Instr.lookup 71 (.map (some b)) (.string s) false).run Tryz.prog w = .ok (tyV ((f s.data.toList).getD [])) w := by
  obtain ⟨D, h1, h2⟩ := h
  obtain ⟨v, ps, hrun, hv⟩ := h1.lookup lawString uTm (zTm w) (zd := .lit (.string [])) (zp := []) (tyElem_of []) (WideMaps.keyOf_string_mk uString hs)
  rw [(h2 _).2] at hv
  rw [tyElem_inv hv] at hrun
  exact hrun
theorem TMap.store {w : World} {b n : Nat} {f : Bytes → Option Bytes} (h : TMap w b n f) (hn : n < maxLen) (s : ByteArray) (hs : s.size ≤ maxLen) (t : Bytes) :
    ∃ w', (Instr.mapUpdate 71 (.map (some b)) (.string s) (tyV t)).run Tryz.prog w = .ok () w' ∧ TMap w' b (n + 1) (fun y => if y = s.data.toList then some t else f y) ∧ w.grownBy w' (some b) := by
  obtain ⟨D, h1, h2⟩ := h
  obtain ⟨w', hrun, h3, h4⟩ := h1.update lawString uTm hn (key := .string s) (WideMaps.keyOf_string_mk uString hs) (tyElem_of t)
  refine ⟨w', hrun, ⟨_, h3, fun x => ?_⟩, h4⟩
  by_cases hx : x = s.data.toList
  · subst hx
    simp only [if_true]
    rw [Maps.atKey_put_same h1.isMap (by simp [WideAt.IsKeyLit]), Maps.has_put_same h1.isMap (by simp [WideAt.IsKeyLit])]
    exact ⟨rfl, rfl⟩
  · simp only [hx, if_false]
    rw [Maps.atKey_put_other (by simpa using hx), Maps.has_put_other (by simpa using hx)]
    exact h2 x
/-- The keys of such a map, where they are known. -/
theorem TMap.keys {w : World} {b n : Nat} {f : Bytes → Option Bytes} (h : TMap w b n f) {ns : List Bytes} (hnd : ns.Nodup) (hm : ∀ x, x ∈ ns ↔ (f x).isSome = true) :
    ∃ D, w.ownsMap Tryz.prog 9 tyElem b n D ∧ ns.Perm (strKeys D) ∧ Maps.size D = ns.length := by
  obtain ⟨D, h1, h2⟩ := h
  obtain ⟨es, rfl, hks⟩ := h1.keysOf
  obtain ⟨es', he, hp⟩ := h1.tidy lawString
  cases he
  have hperm : ns.Perm (strKeys (.map es)) := perm_strKeys hp (fun p hp' => by
    obtain ⟨key, hk⟩ := hks p hp'
    obtain ⟨x, _, hx, _⟩ := Maps.keyOf_str uString hk
    exact ⟨x, hx⟩) hnd (fun x => by rw [hm x, (h2 x).1])
  have hl := hperm.length_eq
  refine ⟨_, h1, hperm, ?_⟩
  rw [hl]
  simp [strKeys, Maps.size]
end Go.Proofs.YtpbplpnifjbkoaaGreatDoor

namespace Go.Proofs.YtpbplpnifjbkoaaGreatDoor
open Go.RowKit

theorem own_any (b : Nat) (N : Int) (u : Value) (nm : ByteArray) (w : World) (hb : w.heap[b]? = some (varO N u nm)) : Calls Tryz.prog 71 #[.pointer (some ⟨b, 0, none⟩)] w fun e w' => e = .returned (.string nm) ∧ w = w' := by
  have c2 : w.cell? ⟨b, 2, none⟩ = some (.string nm) := cell_of_block hb 2
  clear hb
  go_enter Tryz.func71, Tryz.ntmps71
  go_wp2
  go_ret
  exact ⟨rfl, rfl⟩
/-- The i-th name. -/
def nthN (ns : List Bytes) (i : Nat) : Bytes := ns.getD i []
def nxO (n0 : Nat) (ns : List Bytes) (s : Unit) (n : Nat) : Bytes × Unit := (nthN ns (n - (n0 + 1)), s)
theorem nameFn_own [Inhabited Low] (n0 : Nat) (ns : List Bytes) (hns : ∀ x ∈ ns, NameOK x) : NameFn 71 #[] (QN n0 ns) (fun (_ : Unit) (_ : World) => True) (nxO n0 ns) (fun _ => 0) [] := by
  refine ⟨fun s w b n nm _ hb hq _ => ?_, fun b w => by kernel_rfl, fun _ _ _ _ _ => trivial, fun s n _ => ?_, fun s n => by simp⟩
  · refine (own_any b n .nilIface nm w hb).mono ?_
    rintro e w' ⟨rfl, rfl⟩
    obtain ⟨_, x, h2, rfl⟩ := hq
    refine ⟨?_, trivial, KV.refl _ _⟩
    simp only [nxO, nthN, List.getD_eq_getElem?_getD, h2, Option.getD_some]
  · simp only [nxO, nthN, List.getD_eq_getElem?_getD]
    cases h : ns[n - (n0 + 1)]? with
    | none => simp
    | some x => have := (hns x (List.mem_of_getElem? h)).2.2.1; simp; omega
theorem own_text (n0 : Nat) (ns : List Bytes) (t : Ty) : shownF (nxO n0 ns) (shT n0 t) () = (shown (nthN ns) t, ()) := by
  have h : ∀ t : Ty, shownF (nxO n0 ns) (shT n0 t) () = (shown (nthN ns) t, ()) := by
    intro t
    induction t with
    | var n => simp [shT, Ty.ren, Ty.put, shownF, nxO, shown]
    | int => rfl
    | bool => rfl
    | list a ih => simp only [shT, Ty.ren, Ty.put, shownF, shown] at ih ⊢; rw [ih]
    | pair a b iha ihb => simp only [shT, Ty.ren, Ty.put, shownF, shown] at iha ihb ⊢; rw [iha, ihb]
    | arr a b iha ihb =>
      have hr := isArr_ren (· + (n0 + 1)) a
      simp only [shT, Ty.ren, Ty.put, shownF, shown] at iha ihb hr ⊢
      rw [iha, ihb, hr]
  exact h t

/-- The map of what was matched: names of the general type's variables to texts. -/
def GotAt (w : World) (mb : Nat) (gs ss : List Bytes) (g : List (Nat × Ty)) : Prop :=
  ∃ n f, n ≤ g.length ∧ TMap w mb n f ∧ (∀ v, v < gs.length → f (nthN gs v) = (g.lookup v).map (shown (nthN ss))) ∧ ∀ x, (f x).isSome = true → x ∈ gs
theorem GotAt.same {w w' : World} {mb : Nat} {gs ss : List Bytes} {g : List (Nat × Ty)} (h : GotAt w mb gs ss g) (hb : w'.heap[mb]? = w.heap[mb]?) : GotAt w' mb gs ss g := by
  obtain ⟨n, f, h1, h2, h3⟩ := h
  exact ⟨n, f, h1, h2.same hb, h3⟩
theorem GotAt.obj {w : World} {mb : Nat} {gs ss : List Bytes} {g : List (Nat × Ty)} (h : GotAt w mb gs ss g) : ∃ es cl, w.heap[mb]? = some (.map es cl) := by
  obtain ⟨n, f, h1, h2, h3⟩ := h
  exact h2.obj
theorem GotAt.kv [Inhabited Low] {w w' : World} {mb : Nat} {gs ss : List Bytes} {g : List (Nat × Ty)} {M : List Nat} (h : GotAt w mb gs ss g) (hk : KV M w w') (hm : mb ∉ M) : GotAt w' mb gs ss g := by
  obtain ⟨es, cl, ho⟩ := h.obj
  exact h.same ((hk.blk ho hm (by simp)).trans ho.symm)

/-- What the closures have captured: the boxes of own, got, match. -/
structure Caps (w : World) (ob gb xb mb : Nat) : Prop where
  o : w.heap[ob]? = some (.cells #[.func (.func 71) #[] #[]] 158 (0, 0))
  g : w.heap[gb]? = some (.cells #[.map (some mb)] 71 (0, 0))
  x : w.heap[xb]? = some (.cells #[.func (.func 72) #[] #[.pointer (some ⟨ob, 0, none⟩), .pointer (some ⟨gb, 0, none⟩), .pointer (some ⟨xb, 0, none⟩)]] 164 (0, 0))
theorem Caps.kv [Inhabited Low] {w w' : World} {ob gb xb mb : Nat} (h : Caps w ob gb xb mb) (hk : KV [mb] w w') {es : Array MapEntry} {cl : Nat} (hm : w.heap[mb]? = some (.map es cl)) : Caps w' ob gb xb mb := by
  have hs : ∀ {k : Nat} {o : Obj}, w.heap[k]? = some o → (∀ es cl, o ≠ .map es cl) → (∀ N u nm, o ≠ varO N u nm) → w'.heap[k]? = some o := fun {k o} ho h1 h2 => hk.blk ho (by
    simp only [List.mem_singleton]
    exact ne_of_obj ho hm (h1 _ _)) h2
  exact ⟨hs h.o (by simp) (by simp), hs h.g (by simp) (by simp), hs h.x (by simp) (by simp)⟩
/-- The types in g are of the special type's variables. -/
def GUnder (k : Nat) (g : List (Nat × Ty)) : Prop := ∀ v u, g.lookup v = some u → u.under k

theorem under_has {k : Nat} {t : Ty} (h : t.under k) {v : Nat} (hv : t.has v) : v < k := by
  induction t with
  | var n => have e : v = n := hv; subst e; exact h
  | int => exact absurd hv (by simp [Ty.has])
  | bool => exact absurd hv (by simp [Ty.has])
  | list a ih => exact ih h hv
  | pair a b iha ihb => rcases hv with hv | hv; exact iha h.1 hv; exact ihb h.2 hv
  | arr a b iha ihb => rcases hv with hv | hv; exact iha h.1 hv; exact ihb h.2 hv
theorem nthN_inj {ss : List Bytes} (h : ss.Nodup) {u v : Nat} (hu : u < ss.length) (hv : v < ss.length) (he : nthN ss u = nthN ss v) : u = v := by
  simp only [nthN, List.getD_eq_getElem?_getD, List.getElem?_eq_getElem hu, List.getElem?_eq_getElem hv, Option.getD_some] at he
  exact (List.getElem_inj h).1 he
theorem nthN_mem {ss : List Bytes} {u : Nat} (hu : u < ss.length) : nthN ss u ∈ ss := by
  simp only [nthN, List.getD_eq_getElem?_getD, List.getElem?_eq_getElem hu, Option.getD_some]
  exact List.getElem_mem _
theorem nthN_some {ss : List Bytes} {u : Nat} {x : Bytes} (h : ss[u]? = some x) : nthN ss u = x := by simp [nthN, h]
/-- One text, one type. -/
theorem shownN_inj {ss : List Bytes} (hsn : ss.Nodup) (hss : ∀ x ∈ ss, NameOK x) {a b : Ty} (ha : a.under ss.length) (hb : b.under ss.length) (h : shown (nthN ss) a = shown (nthN ss) b) : a = b :=
  shown_inj (nthN ss) a b (fun _ hv => hss _ (nthN_mem (hv.elim (under_has ha) (under_has hb)))) (fun _ _ hu hv => nthN_inj hsn (hu.elim (under_has ha) (under_has hb)) (hv.elim (under_has ha) (under_has hb))) h
theorem matchT_under {k : Nat} (a : Ty) : ∀ (b : Ty) (g g' : List (Nat × Ty)), matchT a b g = some g' → b.under k → GUnder k g → GUnder k g' ∧ g'.length ≤ g.length + a.size := by
  induction a with
  | var n =>
    intro b g g' h hb hg
    simp only [matchT] at h
    cases hl : g.lookup n with
    | some u =>
      rw [hl] at h
      simp only at h
      split at h
      · cases h; exact ⟨hg, by omega⟩
      · cases h
    | none =>
      rw [hl] at h
      cases h
      refine ⟨fun v u hu => ?_, by simp [Ty.size]⟩
      rw [List.lookup_cons] at hu
      by_cases hv : v = n
      · subst hv; simp only [BEq.rfl, Option.some.injEq] at hu; exact hu ▸ hb
      · rw [beq_false_of_ne hv] at hu; exact hg v u hu
  | int => intro b g g' h; cases b <;> simp [matchT] at h; subst h; exact fun _ hg => ⟨hg, by omega⟩
  | bool => intro b g g' h; cases b <;> simp [matchT] at h; subst h; exact fun _ hg => ⟨hg, by omega⟩
  | list a ih =>
    intro b g g' h hb hg
    cases b <;> simp only [matchT, reduceCtorEq] at h
    have := ih _ _ _ h hb hg
    exact ⟨this.1, by simp only [Ty.size]; omega⟩
  | pair a b iha ihb =>
    intro b' g g' h hb hg
    cases b' <;> simp only [matchT, reduceCtorEq] at h
    obtain ⟨g1, h1, h2⟩ := Option.bind_eq_some_iff.1 h
    have k1 := iha _ _ _ h1 hb.1 hg
    have k2 := ihb _ _ _ h2 hb.2 k1.1
    exact ⟨k2.1, by simp only [Ty.size]; omega⟩
  | arr a b iha ihb =>
    intro b' g g' h hb hg
    cases b' <;> simp only [matchT, reduceCtorEq] at h
    obtain ⟨g1, h1, h2⟩ := Option.bind_eq_some_iff.1 h
    have k1 := iha _ _ _ h1 hb.1 hg
    have k2 := ihb _ _ _ h2 hb.2 k1.1
    exact ⟨k2.1, by simp only [Ty.size]; omega⟩

def MatchPost [Inhabited Low] (mb : Nat) (gs ss : List Bytes) (w : World) (r : Option (List (Nat × Ty))) (e : Ending) (w' : World) : Prop :=
  KV [mb] w w' ∧ (∃ es cl, w'.heap[mb]? = some (.map es cl)) ∧ match r with
  | some g => e = .returned (.bool true) ∧ GotAt w' mb gs ss g
  | none => e = .returned (.bool false)
theorem MatchPost.same [Inhabited Low] {mb : Nat} {gs ss : List Bytes} {w W : World} {r : Option (List (Nat × Ty))} {g : List (Nat × Ty)} {c : Bool} (hk : KV [] w W) (hg : GotAt w mb gs ss g) (h : r = if c then some g else none) : MatchPost mb gs ss w r (.returned (.bool c)) W := by
  refine ⟨hk.mono (by simp), (hg.kv hk (by simp)).obj, ?_⟩
  subst h
  cases c
  · exact rfl
  · exact ⟨rfl, hg.kv hk (by simp)⟩
theorem MatchPost.parts [Inhabited Low] {mb : Nat} {gs ss : List Bytes} {w w' : World} {r : Option (List (Nat × Ty))} {e : Ending} (h : MatchPost mb gs ss w r e w') :
    KV [mb] w w' ∧ (∃ es cl, w'.heap[mb]? = some (.map es cl)) ∧ ∃ c, e = .returned (.bool c) ∧ (c = true → ∃ g, r = some g ∧ GotAt w' mb gs ss g) ∧ (c = false → r = none) := by
  obtain ⟨h1, h2, h3⟩ := h
  refine ⟨h1, h2, ?_⟩
  cases r with
  | some g => exact ⟨true, h3.1, fun _ => ⟨g, rfl, h3.2⟩, fun h => by cases h⟩
  | none => exact ⟨false, h3, fun h => (by cases h), fun _ => rfl⟩
def MatchOK [Inhabited Low] (ob gb xb mb n0 : Nat) (gs ss : List Bytes) (a : Ty) : Prop := ∀ (b : Ty) (g : List (Nat × Ty)) (w : World) (va vb : Value), TyD (QN 0 gs) w (shT 0 a) va → TyD (QN n0 ss) w (shT n0 b) vb → b.under ss.length → GUnder ss.length g → b.size ≤ 120 → g.length + a.size ≤ 1000 →
  GotAt w mb gs ss g → Caps w ob gb xb mb →
  Calls Tryz.prog 72 #[va, vb, .pointer (some ⟨ob, 0, none⟩), .pointer (some ⟨gb, 0, none⟩), .pointer (some ⟨xb, 0, none⟩)] w (MatchPost mb gs ss w (matchT a b g))

theorem taVarVarT (v : Value) (xT : TypeId) (w : World) : (Instr.typeAssert (.iface 161 v) xT 161 true).run Tryz.prog w = .ok (.tuple #[v, .bool true]) w := by kernel_rfl
theorem taConVarT (v : Value) (xT : TypeId) (w : World) : (Instr.typeAssert (.iface 166 v) xT 161 true).run Tryz.prog w = .ok (.tuple #[.pointer none, .bool false]) w := by kernel_rfl
theorem taConConF (v : Value) (xT : TypeId) (w : World) : (Instr.typeAssert (.iface 166 v) xT 166 false).run Tryz.prog w = .ok v w := by kernel_rfl

set_option maxRecDepth 100000 in
set_option maxHeartbeats 4000000 in
theorem match_var [Inhabited Low] (ob gb xb mb n0 : Nat) (gs ss : List Bytes) (hgn : gs.Nodup) (hsn : ss.Nodup) (hss : ∀ x ∈ ss, NameOK x) (hgs : ∀ x ∈ gs, NameOK x) (n : Nat) : MatchOK ob gb xb mb n0 gs ss (.var n) := by
  intro b g w va vb hva hvb hu hgu hsz hgl hgot hcaps
  obtain ⟨p, nm, rfl, hf, hp, hq⟩ := hva
  have hta := taVarVarT (.pointer (some ⟨p, 0, none⟩)) 150 w
  obtain ⟨hq1, x, hq2, rfl⟩ := hq
  have hx : gs[n]? = some x := by simpa using hq2
  obtain ⟨ut, up, rfl⟩ : ∃ ut up, vb = .iface ut up := by rcases hvb.shape with ⟨_, rfl⟩ | ⟨_, rfl⟩ <;> exact ⟨_, _, rfl⟩
  have c0 : w.cell? ⟨ob, 0, none⟩ = some (.func (.func 71) #[] #[]) := cell_of_block hcaps.o 0
  have HS := Lib.hid (showt_any (nameFn_own n0 ss hss) (shT n0 b) () w _ hvb.ty trivial (by rw [ren_size]; show 0 + _ ≤ _; omega))
  have HX := Lib.hid hx
  have HP := Lib.hid hp
  have HG := Lib.hid hgot
  have HC := Lib.hid hcaps
  clear hf hp hq1 hq2 hvb hgot hcaps hx
  go_enter Tryz.func72, Tryz.ntmps72
  go_wp2_with fail
  refine HS.out.mono ?_
  rintro e w1 ⟨rfl, _, hk⟩
  rw [own_text]
  go_wp2_with fail
  have HD := Lib.hid (fun W (h : Keeps [] w1 W) => hk.frame h (fun _ hm => by cases hm) (fun _ hm => by cases hm))
  have HT := Lib.hid (HG.out.kv hk (by simp))
  obtain ⟨m0, f, hm0, hmap, hfg, hfs⟩ := HT.out
  obtain ⟨u', hp1, -⟩ := hk.var _ _ _ _ HP.out
  have HP1 := Lib.hid hp1
  have HGB := Lib.hid (hk.blk HC.out.g (by simp) (by simp))
  have d1 : (w1.alloc (.cells #[.string (bs (shown (nthN ss) b))] 76)).cell? ⟨p, 2, none⟩ = some (.string (bs x)) := cell_of_block (block_alloc_old hp1) 2
  have d2 : (w1.alloc (.cells #[.string (bs (shown (nthN ss) b))] 76)).cell? ⟨gb, 0, none⟩ = some (.map (some mb)) := cell_of_block (block_alloc_old HGB.out) 0
  have d3 : ((w1.alloc (.cells #[.string (bs (shown (nthN ss) b))] 76)).alloc (.cells #[.string ⟨#[]⟩] 76)).cell? ⟨p, 2, none⟩ = some (.string (bs x)) := cell_of_block (block_alloc_old (block_alloc_old hp1)) 2
  have d4 : ((w1.alloc (.cells #[.string (bs (shown (nthN ss) b))] 76)).alloc (.cells #[.string ⟨#[]⟩] 76)).cell? ⟨gb, 0, none⟩ = some (.map (some mb)) := cell_of_block (block_alloc_old (block_alloc_old HGB.out)) 0
  have hxm : (bs x).size ≤ maxLen := by rw [bs_size]; have := (hgs x (List.mem_of_getElem? HX.out)).2.2.1; unfold maxLen; omega
  have hmap1 : TMap (w1.alloc (.cells #[.string (bs (shown (nthN ss) b))] 76)).drew mb m0 f := hmap.same (Below.heap_alloc _ _ _ hmap.lt)
  have hmap2 : TMap ((w1.alloc (.cells #[.string (bs (shown (nthN ss) b))] 76)).alloc (.cells #[.string ⟨#[]⟩] 76)).drew mb m0 f := hmap.same ((Below.heap_alloc _ _ _ (by simp; have := hmap.lt; omega)).trans (Below.heap_alloc _ _ _ hmap.lt))
  have hlk := hmap1.look (bs x) hxm
  have hlk2 := hmap2.look (bs x) hxm
  have hfx : f x = (g.lookup n).map (shown (nthN ss)) := by
    rw [← hfg n (List.getElem?_eq_some_iff.1 HX.out).1]
    simp [nthN, HX.out]
  rw [show (bs x).data.toList = x from bs_data x, hfx] at hlk hlk2
  have HM := Lib.hid hmap1
  have HM2 := Lib.hid hmap2
  have HFX := Lib.hid hfx
  have HFG := Lib.hid hfg
  clear hmap hmap1 hmap2 hfx hfg hp1
  cases hlu : g.lookup n with
  | some u =>
    rw [hlu] at hlk hlk2
    simp only [Option.map_some, Option.getD_some, Option.isSome_some] at hlk hlk2
    have hmt := Lib.hid (show matchT (.var n) b g = if u = b then some g else none by simp [matchT, hlu])
    go_region
    all_goals
      go_wp2_with fail
      all_goals
        rename_i hcmp
        go_ret
        rw [ByteArray.toList_eq, ByteArray.toList_eq, bs_data, bs_data] at hcmp
        refine MatchPost.same (HD.out _ (by repeat (first | exact (Keeps.refl [] w1) | refine Keeps.drew ?_ | refine Keeps.alloc ?_ _))) HG.out ?_
        first
        | (rw [hmt.out, if_pos (shownN_inj hsn hss (hgu n u hlu) hu hcmp)]; rfl)
        | (rw [hmt.out, if_neg (fun e => hcmp (by rw [e]))]; rfl)
  | none =>
    rw [hlu] at hlk hlk2
    simp only [Option.map_none, Option.getD_none, Option.isSome_none] at hlk hlk2
    have hmt := Lib.hid (show matchT (.var n) b g = some ((n, b) :: g) by simp [matchT, hlu])
    have e1 : ((w1.alloc (.cells #[.string (bs (shown (nthN ss) b))] 76)).alloc (.cells #[.string (bs [])] 76)).cell? ⟨p, 2, none⟩ = some (.string (bs x)) := cell_of_block (block_alloc_old (block_alloc_old HP1.out)) 2
    have e2 : ((w1.alloc (.cells #[.string (bs (shown (nthN ss) b))] 76)).alloc (.cells #[.string (bs [])] 76)).cell? ⟨gb, 0, none⟩ = some (.map (some mb)) := cell_of_block (block_alloc_old (block_alloc_old HGB.out)) 0
    have e3 : ((w1.alloc (.cells #[.string (bs (shown (nthN ss) b))] 76)).alloc (.cells #[.string (bs [])] 76)).cell? ⟨w1.heap.size, 0, none⟩ = some (.string (bs (shown (nthN ss) b))) := cell_of_block (block_alloc_old (block_alloc w1 _)) 0
    have hmap3 : TMap ((w1.alloc (.cells #[.string (bs (shown (nthN ss) b))] 76)).alloc (.cells #[.string (bs [])] 76)).drew.drew mb m0 f := HM2.out.same rfl
    obtain ⟨w3, hrun, hm3, hg3⟩ := hmap3.store (by unfold maxLen; omega) (bs x) hxm (shown (nthN ss) b)
    have HM3 := Lib.hid hm3
    have HG3 := Lib.hid hg3
    clear hmap3 hm3 hg3
    go_region
    all_goals
      go_wp2_with fail
      go_region
      all_goals
        go_wp2_with fail
        go_ret
        have hk3 : KV [mb] w w3 := (hk.mono (by simp)).frame (Keeps.grown (M := [mb]) (a := w1) (by repeat (first | exact (Keeps.refl [mb] w1) | refine Keeps.drew ?_ | refine Keeps.alloc ?_ _)) HG3.out (by rintro j e; cases e; exact .inl (by simp))) (fun m hm => .inl hm) (fun m hm o hmo => by
          simp only [List.mem_singleton] at hm
          subst hm
          obtain ⟨es, cl, ho⟩ := HT.out.obj
          rw [ho] at hmo
          cases hmo
          rintro cs T z e
          cases e)
        refine ⟨hk3, HM3.out.obj, ?_⟩
        rw [hmt.out]
        refine ⟨rfl, m0 + 1, _, by simp only [List.length_cons]; omega, HM3.out, fun v hv => ?_, fun y hy => ?_⟩
        · rw [bs_data, List.lookup_cons]
          by_cases hvn : v = n
          · subst hvn
            rw [if_pos (nthN_some HX.out), BEq.rfl]
            rfl
          · rw [if_neg (fun e => hvn (nthN_inj hgn hv (List.getElem?_eq_some_iff.1 HX.out).1 (e.trans (nthN_some HX.out).symm))), beq_false_of_ne hvn]
            exact HFG.out v hv
        · by_cases hyx : y = (bs x).data.toList
          · rw [hyx, bs_data]
            exact List.mem_of_getElem? HX.out
          · rw [if_neg hyx] at hy
            exact hfs y hy

/-! ### A type that is no variable -/
theorem RowC.at {w : World} {g : Nat} {vs : List Value} (h : RowC w (some ⟨g, 0, none⟩) vs) {j : Nat} {v : Value} (hv : vs[j]? = some v) : w.cell? ⟨g, j, none⟩ = some v := by
  obtain ⟨g', h1, h2⟩ := h.cell hv
  cases h1
  exact h2
def KidsD [Inhabited Low] (Q : Nat → ByteArray → Prop) (w : World) (ts : List Ty) (vs : List Value) : Prop := vs.length = ts.length ∧ ∀ (j : Nat) t v, ts[j]? = some t → vs[j]? = some v → TyD Q w t v
theorem KidsD.one [Inhabited Low] {Q : Nat → ByteArray → Prop} {w : World} {a : Ty} {va : Value} (h : TyD Q w a va) : KidsD Q w [a] [va] := ⟨rfl, fun j t v h1 h2 => by
  cases j with
  | zero => simp at h1 h2; subst h1; subst h2; exact h
  | succ j => simp at h1⟩
theorem KidsD.two [Inhabited Low] {Q : Nat → ByteArray → Prop} {w : World} {a b : Ty} {va vb : Value} (h : TyD Q w a va) (h' : TyD Q w b vb) : KidsD Q w [a, b] [va, vb] := ⟨rfl, fun j t v h1 h2 => by
  match j with
  | 0 => simp at h1 h2; subst h1; subst h2; exact h
  | 1 => simp at h1 h2; subst h1; subst h2; exact h'
  | j + 2 => simp at h1⟩
theorem TyD.kids [Inhabited Low] {Q : Nat → ByteArray → Prop} {w : World} {t : Ty} {r : Value} (h : TyD Q w t r) (hv : isVarT t = false) :
    ∃ c ad cap vs, r = cV c ∧ w.heap[c]? = some (conO (kindT t) (.slice ad vs.length cap)) ∧ RowC w ad vs ∧ KidsD Q w (kidsT t) vs := by
  cases t with
  | var n => simp [isVarT] at hv
  | int => obtain ⟨c, h1, h2⟩ := h; exact ⟨c, none, 0, [], h1, h2, fun j v hj => by simp at hj, rfl, fun j t v h => by simp [kidsT] at h⟩
  | bool => obtain ⟨c, h1, h2⟩ := h; exact ⟨c, none, 0, [], h1, h2, fun j v hj => by simp at hj, rfl, fun j t v h => by simp [kidsT] at h⟩
  | list a => obtain ⟨c, sv, va, h1, h2, h3, h4⟩ := h; obtain ⟨ad, cap, rfl, hr⟩ := h3.c; exact ⟨c, ad, cap, _, h1, h2, hr, .one h4⟩
  | pair a b => obtain ⟨c, sv, va, vb, h1, h2, h3, h4, h5⟩ := h; obtain ⟨ad, cap, rfl, hr⟩ := h3.c; exact ⟨c, ad, cap, _, h1, h2, hr, .two h4 h5⟩
  | arr a b => obtain ⟨c, sv, va, vb, h1, h2, h3, h4, h5⟩ := h; obtain ⟨ad, cap, rfl, hr⟩ := h3.c; exact ⟨c, ad, cap, _, h1, h2, hr, .two h4 h5⟩
def matchK : List Ty → List Ty → List (Nat × Ty) → Option (List (Nat × Ty))
  | a :: r, b :: s, g => (matchT a b g).bind (matchK r s)
  | [], [], g => some g
  | _, _, _ => none
theorem matchT_kids {a : Ty} (ha : isVarT a = false) (b : Ty) (g : List (Nat × Ty)) : matchT a b g = if kindT a = kindT b then matchK (kidsT a) (kidsT b) g else none := by
  cases a <;> first
    | (simp [isVarT] at ha; done)
    | (cases b <;> simp [matchT, kindT, kidsT, matchK, kInt, kBool, kList, kPair, kFun])
theorem kids_same {a b : Ty} (h : kindT a = kindT b) : (kidsT a).length = (kidsT b).length := by
  cases a <;> cases b <;> first | rfl | simp [kindT, kInt, kBool, kList, kPair, kFun] at h
theorem kids_sh (n0 : Nat) (t : Ty) : kidsT (shT n0 t) = (kidsT t).map (shT n0) := by cases t <;> rfl
theorem kind_sh (n0 : Nat) (t : Ty) : kindT (shT n0 t) = kindT t := by cases t <;> rfl
theorem isVar_sh (n0 : Nat) (t : Ty) : isVarT (shT n0 t) = isVarT t := by cases t <;> rfl
theorem kids_under {k : Nat} {t x : Ty} (h : t.under k) (hx : x ∈ kidsT t) : x.under k := by
  cases t with
  | var n => simp [kidsT] at hx
  | int => simp [kidsT] at hx
  | bool => simp [kidsT] at hx
  | list a => simp [kidsT] at hx; subst hx; exact h
  | pair a b => simp [kidsT] at hx; rcases hx with rfl | rfl; exact h.1; exact h.2
  | arr a b => simp [kidsT] at hx; rcases hx with rfl | rfl; exact h.1; exact h.2
theorem kids_sizeT {t x : Ty} (hx : x ∈ kidsT t) : x.size < t.size := by
  cases t <;> simp [kidsT] at hx <;> first | (subst hx; simp [Ty.size]; done) | (rcases hx with rfl | rfl <;> (simp [Ty.size]; omega))
def sumZ : List Ty → Nat
  | [] => 0
  | t :: r => t.size + sumZ r
theorem size_kidsZ (t : Ty) : t.size = 1 + sumZ (kidsT t) := by cases t <;> simp only [Ty.size, kidsT, sumZ] <;> omega
/-- Where the matching of parts stands. -/
theorem matchK_step {ka kb : List Ty} {j : Nat} {x y : Ty} {g : List (Nat × Ty)} (hx : ka[j]? = some x) (hy : kb[j]? = some y) :
    matchK (ka.drop j) (kb.drop j) g = (matchT x y g).bind (matchK (ka.drop (j + 1)) (kb.drop (j + 1))) ∧ sumZ (ka.drop j) = x.size + sumZ (ka.drop (j + 1)) := by
  obtain ⟨h1, rfl⟩ := List.getElem?_eq_some_iff.1 hx
  obtain ⟨h2, rfl⟩ := List.getElem?_eq_some_iff.1 hy
  rw [List.drop_eq_getElem_cons h1, List.drop_eq_getElem_cons h2]
  exact ⟨rfl, rfl⟩

set_option maxRecDepth 100000 in
set_option maxHeartbeats 4000000 in
theorem match_any [Inhabited Low] (ob gb xb mb n0 : Nat) (gs ss : List Bytes) (hgn : gs.Nodup) (hsn : ss.Nodup) (hss : ∀ x ∈ ss, NameOK x) (hgs : ∀ x ∈ gs, NameOK x) (m : Nat) : ∀ a : Ty, a.size ≤ m → MatchOK ob gb xb mb n0 gs ss a := by
  induction m with
  | zero => intro a h; have := a.size_pos; omega
  | succ m ih =>
    intro a ha
    by_cases hav : isVarT a = true
    · obtain ⟨n, rfl⟩ : ∃ n, a = .var n := by cases a <;> first | exact ⟨_, rfl⟩ | simp [isVarT] at hav
      exact match_var ob gb xb mb n0 gs ss hgn hsn hss hgs n
    have hav := eq_false_of_ne_true hav
    intro b g w va vb hva hvb hu hgu hsz hgl hgot hcaps
    obtain ⟨ca, ada, capa, vsa, rfl, hca, hra, hka⟩ := hva.kids (by rw [isVar_sh]; exact hav)
    rw [kind_sh] at hca
    rw [kids_sh] at hka
    have c0 : w.cell? ⟨ca, 0, none⟩ = some (.string (bs (kindT a))) := cell_of_block hca 0
    have c1 : w.cell? ⟨ca, 1, none⟩ = some (.slice ada vsa.length capa) := cell_of_block hca 1
    have hta1 := taConVarT (.pointer (some ⟨ca, 0, none⟩)) 150 w
    have hta2 := taConConF (.pointer (some ⟨ca, 0, none⟩)) 150 w
    have hta3 := taConConF (.pointer (some ⟨ca, 0, none⟩)) 150 w.drew
    have hmt := matchT_kids hav b g
    have hfew : vsa.length ≤ 2 := by rw [hka.1, List.length_map]; cases a <;> simp [kidsT]
    by_cases hbv : isVarT b = true
    · obtain ⟨n, rfl⟩ : ∃ n, b = .var n := by cases b <;> first | exact ⟨_, rfl⟩ | simp [isVarT] at hbv
      obtain ⟨p, nm, rfl, _, hp, _⟩ := hvb
      have HMT := Lib.hid (show matchT a (.var n) g = none by rw [hmt, if_neg (by cases a <;> simp [kindT, isVarT, kInt, kBool, kList, kPair, kFun] at hav ⊢)])
      have htb := taVarCon (.pointer (some ⟨p, 0, none⟩)) 150 w
      have htb2 := taVarCon (.pointer (some ⟨p, 0, none⟩)) 150 w.drew
      have HG := Lib.hid hgot
      clear hca hra hka hp hmt ih hgot hcaps hgu
      go_enter Tryz.func72, Tryz.ntmps72
      go_wp2_with fail
      go_region
      all_goals
        go_wp2_with fail
        go_ret
        rw [HMT.out]
        refine MatchPost.same (c := false) (by repeat (first | exact (KV.refl [] w) | exact ((Keeps.refl [] w).drew.kv0) | exact ((Keeps.refl [] w).drew.drew.kv0))) HG.out rfl
    have hbv := eq_false_of_ne_true hbv
    obtain ⟨cb, adb, capb, vsb, rfl, hcb, hrb, hkb⟩ := hvb.kids (by rw [isVar_sh]; exact hbv)
    rw [kind_sh] at hcb
    rw [kids_sh] at hkb
    have d0 : w.cell? ⟨cb, 0, none⟩ = some (.string (bs (kindT b))) := cell_of_block hcb 0
    have d1 : w.cell? ⟨cb, 1, none⟩ = some (.slice adb vsb.length capb) := cell_of_block hcb 1
    have htb := taConCon (.pointer (some ⟨cb, 0, none⟩)) 150 w
    have htb2 := taConCon (.pointer (some ⟨cb, 0, none⟩)) 150 w.drew
    have HG := Lib.hid hgot
    have HC := Lib.hid hcaps
    have HIH := Lib.hid ih
    have HRA := Lib.hid hra
    have HCA := Lib.hid hca
    have HCB := Lib.hid hcb
    have HRB := Lib.hid hrb
    have HKA := Lib.hid hka
    have HKB := Lib.hid hkb
    have HGU := Lib.hid hgu
    have HZ := Lib.hid (size_kidsZ a)
    by_cases hk : kindT a = kindT b
    · have hkt : ((bs (kindT a)).toList == (bs (kindT b)).toList) = true := by rw [hk]; exact beq_self_eq_true _
      have HMT := Lib.hid (show matchT a b g = matchK (kidsT a) (kidsT b) g by rw [hmt, if_pos hk])
      have HKL := Lib.hid (kids_same hk)
      clear hca hra hka hcb hrb hkb hmt ih hgot hcaps hgu hk
      go_enter Tryz.func72, Tryz.ntmps72
      go_wp2_with fail
      go_region
      all_goals
        go_wp2_with fail
        go_loopg [70] vsa.length (fun gg i wx => ∃ (j : Nat) (gj : List (Nat × Ty)) (wz : World), wz = wx ∧ gg = vsa.length - j ∧ i = .int .i64 j ∧ j ≤ vsa.length ∧ KV [mb] w wx ∧ GotAt wx mb gs ss gj ∧ GUnder ss.length gj ∧ gj.length + sumZ ((kidsT a).drop j) ≤ 1000 ∧ matchK (kidsT a) (kidsT b) g = matchK ((kidsT a).drop j) ((kidsT b).drop j) gj)
        case atStart => exact ⟨0, g, _, rfl, rfl, rfl, by omega, (Keeps.refl [] w).drew.kv0.mono (by simp), HG.out.same rfl, HGU.out, by have := HZ.out; simp only [List.drop_zero]; omega, rfl⟩
        case round =>
          obtain ⟨j, gj, wx, rfl, hg, rfl, hj, hkx, hgx, hux, hlx, hmx⟩ := hrel
          obtain ⟨es, cl, hmo⟩ := HG.out.obj
          have HCX := Lib.hid (HC.out.kv hkx hmo)
          have HG2 := Lib.hid hg
          have HKX := Lib.hid hkx
          have HGX := Lib.hid hgx
          have HUX := Lib.hid hux
          have HMX := Lib.hid hmx
          have x0 : wx.cell? ⟨xb, 0, none⟩ = some (.func (.func 72) #[] #[.pointer (some ⟨ob, 0, none⟩), .pointer (some ⟨gb, 0, none⟩), .pointer (some ⟨xb, 0, none⟩)]) := cell_of_block HCX.out.x 0
          have f1 : wx.cell? ⟨ca, 1, none⟩ = some (.slice ada vsa.length capa) := cell_of_block (hkx.con _ _ _ _ HCA.out (.inl rfl)) 1
          have f2 : wx.cell? ⟨cb, 1, none⟩ = some (.slice adb vsb.length capb) := cell_of_block (hkx.con _ _ _ _ HCB.out (.inl rfl)) 1
          clear hg hkx hgx hux hmx hmo
          by_cases hlt : j < vsa.length
          · have hja : j < (kidsT a).length := by have := HKA.out.1; rw [List.length_map] at this; omega
            have hjb : j < (kidsT b).length := by rw [← HKL.out]; exact hja
            have hjvb : j < vsb.length := by have := HKB.out.1; rw [List.length_map] at this; omega
            obtain ⟨xa, hxa⟩ : ∃ xa, (kidsT a)[j]? = some xa := ⟨_, List.getElem?_eq_getElem hja⟩
            obtain ⟨xb', hxb⟩ : ∃ xb, (kidsT b)[j]? = some xb := ⟨_, List.getElem?_eq_getElem hjb⟩
            obtain ⟨ya, hya⟩ : ∃ va, vsa[j]? = some va := ⟨_, List.getElem?_eq_getElem hlt⟩
            obtain ⟨yb, hyb⟩ : ∃ va, vsb[j]? = some va := ⟨_, List.getElem?_eq_getElem hjvb⟩
            have hkd : KV [] wx wx.drew := ((Keeps.refl [] wx).drew).kv0
            have htya := (HKX.out.trans0 hkd).td (HKA.out.2 j (shT 0 xa) ya (by rw [List.getElem?_map, hxa]; rfl) hya)
            have htyb := (HKX.out.trans0 hkd).td (HKB.out.2 j (shT n0 xb') yb (by rw [List.getElem?_map, hxb]; rfl) hyb)
            obtain ⟨g1, rfl, hcell1⟩ := (HKX.out.rowC HRA.out).cell hya
            obtain ⟨g2, rfl, hcell2⟩ := (HKX.out.rowC HRB.out).cell hyb
            have hsa := kids_sizeT (List.mem_of_getElem? hxa)
            have hsb := kids_sizeT (List.mem_of_getElem? hxb)
            have hub := kids_under hu (List.mem_of_getElem? hxb)
            obtain ⟨hst, hzt⟩ := matchK_step (g := gj) hxa hxb
            have HCALL := Lib.hid (HIH.out xa (by omega) xb' gj wx.drew ya yb htya htyb hub HUX.out (by omega) (by omega) (HGX.out.same rfl) ⟨HCX.out.o, HCX.out.g, HCX.out.x⟩)
            have HST := Lib.hid (HMX.out.trans hst)
            have HZT := Lib.hid hzt
            have HUB := Lib.hid hub
            have hdl : decide ((j : Int) < (vsa.length : Int)) = true := by simpa using hlt
            obtain ⟨ta, pa, rfl⟩ : ∃ ut up, ya = .iface ut up := by rcases htya.shape with ⟨_, rfl⟩ | ⟨_, rfl⟩ <;> exact ⟨_, _, rfl⟩
            obtain ⟨tb, pb, rfl⟩ : ∃ ut up, yb = .iface ut up := by rcases htyb.shape with ⟨_, rfl⟩ | ⟨_, rfl⟩ <;> exact ⟨_, _, rfl⟩
            have HYA := Lib.hid hya
            have HYB := Lib.hid hyb
            clear htya htyb hya hyb hxa hxb hst hzt hub
            have HHC1 := Lib.hid hcell1
            have HHC2 := Lib.hid hcell2
            go_wp2_with fail
            go_region_held3 (fun W => W.cell? ⟨xb, 0, none⟩ = some (.func (.func 72) #[] #[.pointer (some ⟨ob, 0, none⟩), .pointer (some ⟨gb, 0, none⟩), .pointer (some ⟨xb, 0, none⟩)]) ∧ W.cell? ⟨ca, 1, none⟩ = some (.slice (some ⟨g1, 0, none⟩) vsa.length capa) ∧ W.cell? ⟨cb, 1, none⟩ = some (.slice (some ⟨g2, 0, none⟩) vsb.length capb) ∧ W.cell? ⟨g1, j, none⟩ = some (.iface ta pa) ∧ W.cell? ⟨g2, j, none⟩ = some (.iface tb pb))
              (first | exact ⟨x0, f1, f2, hcell1, hcell2⟩ | exact ⟨y0, y1, y2, y3, y4⟩)
              (first | (go_at_call 72; refine HCALL.out.mono ?_; rintro e w2 hpost
                        obtain ⟨hk2, hmo2, bc, rfl, hct, hcf⟩ := hpost.parts
                        have HK2 := Lib.hid ((HKX.out.trans0 ((Keeps.refl [] wx).drew).kv0).trans hk2 (fun _ h => .inl h))
                        have HMO2 := Lib.hid hmo2
                        have HCT := Lib.hid hct
                        have HCF := Lib.hid hcf
                        obtain ⟨es, cl, hmo⟩ := HG.out.obj
                        have y0 : w2.cell? ⟨xb, 0, none⟩ = some (.func (.func 72) #[] #[.pointer (some ⟨ob, 0, none⟩), .pointer (some ⟨gb, 0, none⟩), .pointer (some ⟨xb, 0, none⟩)]) := cell_of_block (HC.out.kv HK2.out hmo).x 0
                        have y1 : w2.cell? ⟨ca, 1, none⟩ = some (.slice (some ⟨g1, 0, none⟩) vsa.length capa) := cell_of_block (HK2.out.con _ _ _ _ HCA.out (.inl rfl)) 1
                        have y2 : w2.cell? ⟨cb, 1, none⟩ = some (.slice (some ⟨g2, 0, none⟩) vsb.length capb) := cell_of_block (HK2.out.con _ _ _ _ HCB.out (.inl rfl)) 1
                        have y3 : w2.cell? ⟨g1, j, none⟩ = some (.iface ta pa) := (HK2.out.rowC HRA.out).at HYA.out
                        have y4 : w2.cell? ⟨g2, j, none⟩ = some (.iface tb pb) := (HK2.out.rowC HRB.out).at HYB.out
                        clear hpost hk2 hmo2 hct hcf hmo))
            all_goals
              cases bc with
              | true =>
                go_wp2_with fail
                obtain ⟨g', hg', hgot'⟩ := HCT.out (by simp)
                obtain ⟨hgu', hgl'⟩ := matchT_under xa _ _ _ hg' HUB.out HUX.out
                go_roundg (vsa.length - (j + 1))
                case measure => have := HG2.out; omega
                case rel => exact ⟨j + 1, g', _, rfl, rfl, by go_num, by omega, HK2.out, hgot', hgu', by have := HZT.out; omega, by rw [HST.out, hg']; rfl⟩
              | false =>
                go_wp2_with fail
                go_ret
                rw [HMT.out, HST.out, HCF.out (by simp)]
                exact ⟨HK2.out, HMO2.out, rfl⟩
          · have hdl : decide ((j : Int) < (vsa.length : Int)) = false := by simpa using hlt
            have hla : (kidsT a).drop j = [] := List.drop_eq_nil_of_le (by have := HKA.out.1; rw [List.length_map] at this; omega)
            have hlb : (kidsT b).drop j = [] := List.drop_eq_nil_of_le (by have := HKA.out.1; have := HKL.out; rw [List.length_map] at *; omega)
            have HLA := Lib.hid hla
            have HLB := Lib.hid hlb
            clear hla hlb
            go_wp2_with fail
            go_ret
            rw [HMT.out, HMX.out, HLA.out, HLB.out]
            exact ⟨HKX.out, HGX.out.obj, rfl, HGX.out⟩
    · have hkt : ((bs (kindT a)).toList == (bs (kindT b)).toList) = false := by rw [ByteArray.toList_eq, ByteArray.toList_eq, bs_data, bs_data]; exact beq_eq_false_iff_ne.2 hk
      have HMT := Lib.hid (show matchT a b g = none by rw [hmt, if_neg hk])
      clear hca hra hka hcb hrb hkb hmt ih hgot hcaps hgu hk
      go_enter Tryz.func72, Tryz.ntmps72
      go_wp2_with fail
      go_region
      all_goals
        go_wp2_with fail
        go_ret
        rw [HMT.out]
        refine MatchPost.same (c := false) (by repeat (first | exact (KV.refl [] w) | exact ((Keeps.refl [] w).drew.kv0) | exact ((Keeps.refl [] w).drew.drew.kv0))) HG.out rfl
end Go.Proofs.YtpbplpnifjbkoaaGreatDoor

namespace Go.Proofs.YtpbplpnifjbkoaaGreatDoor
open Go.RowKit

/-- What an instance comes to. -/
def instOf (g s : Bytes) : Except (Nat × Nat) (List Bytes × List Bytes × List (Nat × Ty)) :=
  match readTyp g with
  | .error f => .error f
  | .ok (a, gs) => match readTyp s with
    | .error f => .error f
    | .ok (b, ss) => match matchT a b [] with
      | none => .error (11, 0)
      | some l => .ok (gs, ss, l)

def InstPost [Inhabited Low] (a : Nat → Addr) (w : World) (r : Except (Nat × Nat) (List Bytes × List Bytes × List (Nat × Ty))) (e : Ending) (w' : World) : Prop :=
  KV [] w w' ∧ match r with
  | .ok q => ∃ m, e = .returned (.tuple #[.map (some m), .nilIface]) ∧ GotAt w' m q.1 q.2.1 q.2.2
  | .error f => ∃ u, e = .returned (.tuple #[.map none, u]) ∧ ErrAt a w' f u

theorem GotAt.made (w : World) (gs ss : List Bytes) : GotAt (w.alloc (.map #[] 0)) w.heap.size gs ss [] := ⟨0, fun _ => none, Nat.le_refl _, TMap.made w, fun v _ => rfl, fun x h => by simp at h⟩

theorem under_of_has {k : Nat} (t : Ty) (h : ∀ v, t.has v → v < k) : t.under k := by
  induction t with
  | var n => exact h n rfl
  | int => trivial
  | bool => trivial
  | list a ih => exact ih h
  | pair a b iha ihb => exact ⟨iha fun v hv => h v (.inl hv), ihb fun v hv => h v (.inr hv)⟩
  | arr a b iha ihb => exact ⟨iha fun v hv => h v (.inl hv), ihb fun v hv => h v (.inr hv)⟩
theorem under_of_vars (t : Ty) (k : Nat) (h : varsL t [] = List.range k) : t.under k := under_of_has t fun v hv => by
  have : v ∈ varsL t [] := (mem_varsL t [] v).2 (.inr hv)
  rw [h] at this
  simpa using this

set_option maxRecDepth 100000 in
set_option maxHeartbeats 4000000 in
theorem infer_instance [Inhabited Low] {a : Nat → Addr} {B : Nat} (w : World) (hG : Gl a B w) (hlo : lowB ≤ w.heap.size) (s t : ByteArray) : Calls Tryz.prog 37 #[.string s, .string t] w (InstPost a w (instOf s.data.toList t.data.toList)) := by
  have hmf : ∀ (fn : Fn) (first cap : Array Value) (w : World), (Instr.makeFunc fn first cap).run Tryz.prog w = .ok (.func fn first cap) w := fun _ _ _ _ => rfl
  have hmm := @run_makeMap Tryz.prog
  have hsf : ∀ (ad : Addr) (fn : Fn) (x y : Array Value) (m : Mode) (W : World), (store ad (.func fn x y) m).run Tryz.prog W = stored Tryz.prog W ad (.func fn x y) m := fun ad fn x y m W => run_store Tryz.prog W ad _ m rfl
  have hk0 : Keeps [] w (w.alloc (.cells #[.int .i64 0] 156)) := (Keeps.refl [] w).alloc _
  have hG0 := hG.keeps hk0 (by simp)
  have HR := Lib.hid (tread_any _ hG0 s w.heap.size 0 (block_alloc w _) (by omega) hG.hi (by simp; omega))
  have HK0 := Lib.hid hk0.kv0
  have HGL := Lib.hid hG
  have HG0 := Lib.hid hG0
  have hB := hG.hi
  clear hG hG0 hk0
  go_enter Tryz.func37, Tryz.ntmps37
  go_wp2_with fail
  refine HR.out.mono ?_
  rintro e w1 ⟨hk, h⟩
  have HK := Lib.hid (show KV [] w w1 from HK0.out.trans hk (by simp))
  have HG1 := Lib.hid (HG0.out.kv hk (by simpa using hB))
  cases hr : readTyp s.data.toList with
  | error f =>
    rw [hr] at h
    obtain ⟨v, m, u, rfl, he⟩ := h
    obtain ⟨et, p, rfl⟩ := errAt_shape he
    have HE := Lib.hid he
    have HRE := Lib.hid (show instOf s.data.toList t.data.toList = .error f by simp only [instOf, hr])
    clear he hk hr HR
    go_wp2
    go_ret2
    refine ⟨HK.out, ?_⟩
    rw [HRE.out]
    exact ⟨_, rfl, HE.out⟩
  | ok q =>
    rw [hr] at h
    obtain ⟨v, m, rfl, hv, hav⟩ := h
    have hok := readTyp_ok hr
    have HOK := Lib.hid hok
    have HRE := Lib.hid hr
    have HV := Lib.hid hv
    obtain ⟨vt, vp, rfl⟩ : ∃ vt vp, v = .iface vt vp := by rcases hv.shape with ⟨_, rfl⟩ | ⟨_, rfl⟩ <;> exact ⟨_, _, rfl⟩
    have hsz1 := HK.out.size
    have HR2 := Lib.hid (tread_any w1 HG1.out t w.heap.size _ hav (by have := hok.few; omega) hB (by omega))
    clear hk hr HR hv hav hok
    go_wp2_with fail
    refine HR2.out.mono ?_
    rintro e w2 ⟨hk, h⟩
    have HK2 := Lib.hid (show KV [] w w2 from HK.out.trans hk (by simp))
    have HG2 := Lib.hid (HG1.out.kv hk (by simpa using hB))
    have HV2 := Lib.hid (hk.td HV.out)
    cases hr2 : readTyp t.data.toList with
    | error f =>
      rw [hr2] at h
      obtain ⟨v, m, u, rfl, he⟩ := h
      obtain ⟨et, p, rfl⟩ := errAt_shape he
      have HE := Lib.hid he
      have HRE2 := Lib.hid (show instOf s.data.toList t.data.toList = .error f by simp only [instOf, HRE.out, hr2])
      clear he hk hr2 HR2
      go_wp2
      go_ret2
      refine ⟨HK2.out, ?_⟩
      rw [HRE2.out]
      exact ⟨_, rfl, HE.out⟩
    | ok q2 =>
      rw [hr2] at h
      obtain ⟨v2, m2, rfl, hv2, _⟩ := h
      have hok2 := readTyp_ok hr2
      have HOK2 := Lib.hid hok2
      have HRE2 := Lib.hid hr2
      have HVB := Lib.hid hv2
      obtain ⟨vt2, vp2, rfl⟩ : ∃ vt vp, v2 = .iface vt vp := by rcases hv2.shape with ⟨_, rfl⟩ | ⟨_, rfl⟩ <;> exact ⟨_, _, rfl⟩
      have hsz2 := HK2.out.size
      clear hk hr2 HR2 hv2 hok2
      go_wp2_with fail
      have hs1 : (w2.alloc (.cells #[.func (.func 71) #[] #[]] 158)).heap.size = w2.heap.size + 1 := by simp
      have hs2 : ((w2.alloc (.cells #[.func (.func 71) #[] #[]] 158)).alloc (.map #[] 0)).heap.size = w2.heap.size + 1 + 1 := by simp
      have hs3 : (((w2.alloc (.cells #[.func (.func 71) #[] #[]] 158)).alloc (.map #[] 0)).alloc (.cells #[.map (some (w2.heap.size + 1))] 71)).heap.size = w2.heap.size + 1 + 1 + 1 := by simp
      generalize hW1 : w2.alloc (.cells #[.func (.func 71) #[] #[]] 158) = W1 at hs1 hs2 hs3 ⊢
      have b1 : W1.heap[w2.heap.size]? = some (.cells #[.func (.func 71) #[] #[]] 158 (0, 0)) := by rw [← hW1]; exact block_alloc _ _
      have k1 : Keeps [] w2 W1 := by rw [← hW1]; exact (Keeps.refl [] w2).alloc _
      have m2 := GotAt.made W1 q.2 q2.2
      rw [hs1] at m2
      generalize hW2 : W1.alloc (.map #[] 0) = W2 at hs2 hs3 m2 ⊢
      have b2 : W2.heap[w2.heap.size]? = some (.cells #[.func (.func 71) #[] #[]] 158 (0, 0)) := by rw [← hW2]; exact block_alloc_old b1
      have k2 : Keeps [] w2 W2 := by rw [← hW2]; exact k1.alloc _
      have b3 := block_alloc W2 (.cells #[.map (some (w2.heap.size + 1))] 71)
      rw [hs2] at b3
      generalize hW3 : W2.alloc (.cells #[.map (some (w2.heap.size + 1))] 71) = W3 at hs3 b3 ⊢
      have b4 : W3.heap[w2.heap.size]? = some (.cells #[.func (.func 71) #[] #[]] 158 (0, 0)) := by rw [← hW3]; exact block_alloc_old b2
      have k3 : Keeps [] w2 W3 := by rw [← hW3]; exact k2.alloc _
      have b5 := block_alloc W3 (.cells #[.func (.func 72) #[] #[.pointer (some ⟨w2.heap.size, 0, none⟩), .pointer (some ⟨w2.heap.size + 1 + 1, 0, none⟩), .pointer (some ⟨w2.heap.size + 1 + 1 + 1, 0, none⟩)]] 164)
      rw [hs3] at b5
      generalize hW4 : W3.alloc (.cells #[.func (.func 72) #[] #[.pointer (some ⟨w2.heap.size, 0, none⟩), .pointer (some ⟨w2.heap.size + 1 + 1, 0, none⟩), .pointer (some ⟨w2.heap.size + 1 + 1 + 1, 0, none⟩)]] 164) = W4 at b5 ⊢
      have b6 : W4.heap[w2.heap.size]? = some (.cells #[.func (.func 71) #[] #[]] 158 (0, 0)) := by rw [← hW4]; exact block_alloc_old b4
      have b7 : W4.heap[w2.heap.size + 1 + 1]? = some (.cells #[.map (some (w2.heap.size + 1))] 71 (0, 0)) := by rw [← hW4]; exact block_alloc_old b3
      have k4 : Keeps [] w2 W4 := by rw [← hW4]; exact k3.alloc _
      have m4 : GotAt W4 (w2.heap.size + 1) q.2 q2.2 [] := m2.same (by rw [← hW4, ← hW3]; exact (Below.heap_alloc _ _ _ (by rw [hW3, hs3]; omega)).trans (Below.heap_alloc _ _ _ (by rw [hs2]; omega)))
      have hcap : Caps W4 w2.heap.size (w2.heap.size + 1 + 1) (w2.heap.size + 1 + 1 + 1) (w2.heap.size + 1) := ⟨b6, b7, b5⟩
      have HM4 := Lib.hid m4
      have HB7 := Lib.hid b7
      have HK4 := Lib.hid (HK2.out.trans0 k4.kv0)
      have HG4 := Lib.hid (HG2.out.keeps k4 (by simp))
      have hun : q2.1.under q2.2.length := under_of_vars _ _ HOK2.out.vars
      refine (match_any w2.heap.size (w2.heap.size + 1 + 1) (w2.heap.size + 1 + 1 + 1) (w2.heap.size + 1) q.2.length q.2 q2.2 HOK.out.nodup HOK2.out.nodup HOK2.out.names HOK.out.names 120 q.1 HOK.out.size q2.1 [] W4 _ _ ?_ ?_ hun (fun v u h => by simp at h) HOK2.out.size (by have := HOK.out.size; simp; omega) m4 hcap).mono ?_
      · exact k4.kv0.td HV2.out
      · simpa using k4.kv0.td HVB.out
      intro e w5 hpost
      obtain ⟨hk5, hmo5, bc, rfl, hct, hcf⟩ := hpost.parts
      have HG5 := Lib.hid (HG4.out.kv hk5 (by have := HG2.out.hi; simp; omega))
      have g7 := HG5.out.v7
      have hl7 := lt_of_cell g7
      obtain ⟨es, cl, hmo⟩ := HM4.out.obj
      have c5 := cell_of_block (hk5.blk HB7.out (by simp) (by simp)) 0
      have HK5 := Lib.hid (HK4.out.trans hk5 (by have := HK2.out.size; simp; omega))
      have HCT := Lib.hid hct
      have HCF := Lib.hid hcf
      clear hpost hk5 hmo5 hct hcf hW1 hW2 hW3 hW4 b1 b2 b3 b4 b5 b6 b7 k1 k2 k3 k4 m2 m4 hs1 hs2 hs3 hcap hun
      cases bc with
      | false =>
        go_wp2_with fail
        go_region
        all_goals
          go_wp2
          go_ret2
          have hnone := HCF.out (by simp)
          refine ⟨HK5.out.frame (M' := []) (by repeat (first | exact (Keeps.refl [] w5) | refine Keeps.drew ?_ | refine Keeps.alloc ?_ _)) (fun _ hm => by cases hm) (fun _ hm => by cases hm), ?_⟩
          rw [show instOf s.data.toList t.data.toList = .error (11, 0) by simp only [instOf, HRE.out, HRE2.out, hnone]]
          exact ⟨_, rfl, .inl ⟨7, rfl, rfl⟩⟩
      | true =>
        obtain ⟨l, hl, hgot⟩ := HCT.out (by simp)
        go_wp2
        go_ret2
        refine ⟨HK5.out, ?_⟩
        rw [show instOf s.data.toList t.data.toList = .ok (q.2, q2.2, l) by simp only [instOf, HRE.out, HRE2.out, hl]]
        exact ⟨_, rfl, hgot⟩
end Go.Proofs.YtpbplpnifjbkoaaGreatDoor

namespace Go.Proofs.YtpbplpnifjbkoaaGreatDoor
open Go.RowKit

/-- The names of the general type, sorted. -/
def ksOf (gs : List Bytes) : List Bytes := gs.mergeSort (fun x y => decide (x ≤ y))
/-- What a name stands for, as text. -/
def textOf (gs ss : List Bytes) (l : List (Nat × Ty)) (x : Bytes) : Bytes := ((l.lookup (gs.idxOf x)).map (shown (nthN ss))).getD []
def sV (x : Bytes) : Value := .string (bs x)

theorem errAt_keeps {a : Nat → Addr} {w w' : World} {f : Nat × Nat} {v : Value} (h : ErrAt a w f v) (hk : Keeps [] w w') : ErrAt a w' f v := by
  rcases h with h | ⟨h2, c, hv, hc⟩
  · exact .inl h
  · exact .inr ⟨h2, c, hv, hk.some hc (by simp)⟩

theorem instOf_ok {g s : Bytes} {q : List Bytes × List Bytes × List (Nat × Ty)} (h : instOf g s = .ok q) : ∃ a b, readTyp g = .ok (a, q.1) ∧ readTyp s = .ok (b, q.2.1) ∧ matchT a b [] = some q.2.2 := by
  unfold instOf at h
  split at h
  · cases h
  rename_i a gs h1
  split at h
  · cases h
  rename_i b ss h2
  split at h
  · cases h
  rename_i l h3
  cases h
  exact ⟨a, b, h1, h2, h3⟩

theorem ownsRow_same {w w' : World} {base : Nat} {e : TypeId} {size : Nat} {v : Value} {n : Nat} {xs : List Value} (h : w.ownsRow base e size v n xs) (hk : ∀ k, v.ownBlock = some k → w'.heap[k]? = w.heap[k]?) : w'.ownsRow base e size v n xs :=
  ⟨h.1, h.2.imp id fun ⟨g, cap, cur, h1, h2, h3, h4⟩ => ⟨g, cap, cur, h1, h2, (hk g (by rw [h1]; rfl)).trans h3, h4⟩⟩
theorem eqlNilM (w : World) : (binOp .eql 71 (.map none) (.map none)).run Tryz.prog w = .ok (.bool true) w := by kernel_rfl
theorem eqlSomeM (b : Nat) (w : World) : (binOp .eql 71 (.map (some b)) (.map none)).run Tryz.prog w = .ok (.bool false) w := by kernel_rfl
theorem fieldTy (t : Bytes) (w : World) : (Instr.field 76 (tyV t) 0).run Tryz.prog w = .ok (.string (bs t)) w := by kernel_rfl
/-- A row of texts, no block of it below lo. -/
def SRow (w : World) (lo : Nat) (v : Value) (xs : List Bytes) : Prop := ∃ ad cap, v = .slice ad xs.length cap ∧ ∀ j x, xs[j]? = some x → ∃ g, lo ≤ g ∧ ad = some ⟨g, 0, none⟩ ∧ w.cell? ⟨g, j, none⟩ = some (sV x)
theorem SRow.keep {w w' : World} {lo : Nat} {v : Value} {xs : List Bytes} {M : List Nat} (h : SRow w lo v xs) (hk : Keeps M w w') (hM : ∀ m ∈ M, m < lo) : SRow w' lo v xs := by
  obtain ⟨ad, cap, hv, hc⟩ := h
  exact ⟨ad, cap, hv, fun j x hj => by obtain ⟨g, hl, hg, hcell⟩ := hc j x hj; exact ⟨g, hl, hg, hk.cellSome hcell (fun hm => by have := hM _ hm; simp at this; omega)⟩⟩
theorem SRow.down {w : World} {lo lo' : Nat} {v : Value} {xs : List Bytes} (h : SRow w lo v xs) (hl : lo' ≤ lo) : SRow w lo' v xs := by
  obtain ⟨ad, cap, hv, hc⟩ := h
  exact ⟨ad, cap, hv, fun j x hj => by obtain ⟨g, h1, hg, hcell⟩ := hc j x hj; exact ⟨g, by omega, hg, hcell⟩⟩
theorem SRow.of_owns {w : World} {base : Nat} {v : Value} {n : Nat} {xs : List Bytes} (h : w.ownsRow base 9 1 v n (xs.map sV)) (hn : n = xs.length) : SRow w base v xs := by
  subst hn
  obtain ⟨ad, cap, rfl, hc⟩ := ownsRow_shape h
  refine ⟨ad, cap, rfl, fun j x hj => ?_⟩
  obtain ⟨g, hg, hcell⟩ := hc j (List.getElem?_eq_some_iff.1 hj).1
  exact ⟨g, (h.lt g (by rw [hg]; rfl)).1, hg, by rw [hcell, List.getElem?_map, hj]; rfl⟩

def PInstPost [Inhabited Low] (w : World) (r : Except (Nat × Nat) (List Bytes × List Bytes × List (Nat × Ty))) (e : Ending) (w' : World) : Prop :=
  KV [] w w' ∧ match r with
  | .ok q => ∃ sn st, e = .returned (.tuple #[sn, st, .bool false, faultV 0 0 ⟨#[]⟩ 0 0]) ∧ SRow w' w.heap.size sn (ksOf q.1) ∧ SRow w' w.heap.size st ((ksOf q.1).map (textOf q.1 q.2.1 q.2.2))
  | .error f => e = .returned (.tuple #[.slice none 0 0, .slice none 0 0, .bool true, faultV f.1 (placeOf f) ⟨#[]⟩ 0 0])

set_option maxRecDepth 100000 in
set_option maxHeartbeats 4000000 in
theorem plain_instance [Inhabited Low] {a : Nat → Addr} {B : Nat} (w : World) (hG : Gl a B w) (hlo : lowB ≤ w.heap.size) (s t : ByteArray) : Calls Tryz.prog 17 #[.string s, .string t] w (PInstPost w (instOf s.data.toList t.data.toList)) := by
  have hk0 : Keeps [] w (w.alloc (.cells #[.int .i64 0, .int .i64 0, .string ⟨#[]⟩, .int .i64 0, .int .i64 0] 28)) := (Keeps.refl [] w).alloc _
  have hG0 := hG.keeps hk0 (by simp)
  have HR := Lib.hid (infer_instance _ hG0 (by simp; omega) s t)
  have HK0 := Lib.hid hk0.kv0
  have HG := Lib.hid hG
  have HB := Lib.hid (block_alloc w (.cells #[.int .i64 0, .int .i64 0, .string ⟨#[]⟩, .int .i64 0, .int .i64 0] 28))
  clear hG hG0 hk0 hlo
  go_enter Tryz.func17, Tryz.ntmps17
  go_wp2_with fail
  refine HR.out.mono ?_
  rintro e w1 ⟨hk, h⟩
  have HK := Lib.hid (HK0.out.trans0 hk)
  have HB1 := Lib.hid (hk.blk HB.out (by simp) (by simp))
  clear hk HR
  cases hr : instOf s.data.toList t.data.toList with
  | error f =>
    rw [hr] at h
    obtain ⟨u, rfl, he⟩ := h
    obtain ⟨et, p, rfl⟩ := errAt_shape he
    have HE := Lib.hid he
    clear he
    have HRE := Lib.hid hr
    clear hr
    go_wp2_with fail
    refine (Tryz.keys_call none w1).mono ?_
    rintro e w2 ⟨rfl, rfl⟩
    go_wp2_with fail
    refine ((callsIn_wide (n := 5)).1 (Tryz.slices_Sorted_keys_nil_38_39 w1)).mono ?_
    rintro e w3 ⟨v, ks, rfl, rfl, hown, hnil, hbl⟩
    obtain rfl := hnil.2 rfl
    have hk3 : Keeps [] w1 w3 := (((Keeps.refl [] w1).alloc _)).trans0 ⟨hbl.os, hbl.tape, hbl.output, hbl.size, fun k hk _ => hbl.block k hk⟩
    have HK3 := Lib.hid (HK.out.trans0 hk3.kv0)
    have HB3 := Lib.hid (hk3.some HB1.out (by simp))
    have HF := Lib.hid (fault_any (HG.out.kv HK3.out (by simp)) (errAt_keeps HE.out hk3))
    clear hown hnil hbl hk3
    go_wp2_with fail
    refine wp_loop_rounds 1 ?_
    rw [rounds_succ]
    have heq := eqlNilM
    go_wp2_with fail
    refine HF.out.mono ?_
    rintro e w4 ⟨rfl, hk4⟩
    have hb2 := hk4.some HB3.out (by simp)
    have r0 := cell_of_block hb2 0
    have r1 := cell_of_block hb2 1
    have r2 := cell_of_block hb2 2
    have r3 := cell_of_block hb2 3
    have r4 := cell_of_block hb2 4
    have f0 := free_of_block hb2 0
    have f1 := free_of_block hb2 1
    have f2 := free_of_block hb2 2
    have f3 := free_of_block hb2 3
    have f4 := free_of_block hb2 4
    have HB2 := Lib.hid hb2
    have HK2 := Lib.hid (HK3.out.trans0 hk4.kv0)
    clear hb2 hk4 HB HB1
    go_wp2_with fail
    refine bodyPost_ret (v := .tuple #[.slice none 0 0, .slice none 0 0, .bool true, faultV f.1 (placeOf f) ⟨#[]⟩ 0 0]) ?_ rfl ?_
    · simp [results, Tryz.results17, go_sem, r0, r1, r2, r3, r4]
    · refine ⟨HK2.out.frame (M' := [w.heap.size]) (by repeat (first | exact Keeps.refl _ _ | refine Keeps.setCell ?_ (Or.inl (by simp)) _)) (by simp) (by simp; rintro o ho; rw [HB2.out] at ho; cases ho; exact plainO_cells (by decide)), by first | rfl | rw [HRE.out]⟩
  | ok q =>
    rw [hr] at h
    obtain ⟨m, rfl, hgot⟩ := h
    have HRE := Lib.hid hr
    have HGOT := Lib.hid hgot
    clear hr
    go_wp2_with fail
    refine (Tryz.keys_call (some m) w1).mono ?_
    rintro e w2 ⟨rfl, rfl⟩
    go_wp2_with fail
    obtain ⟨n, f, hn, hmap, hfv, hfs⟩ := hgot
    obtain ⟨ta, tb, hra, hrb, hma⟩ := instOf_ok HRE.out
    have oka := readTyp_ok hra
    have okb := readTyp_ok hrb
    have hall : ∀ v, v < q.1.length → ∃ u, q.2.2.lookup v = some u := fun v hv => (matchT_vars ta tb [] _ hma v).2 (.inr ((mem_varsL ta [] v).1 (by rw [oka.vars]; simpa using hv) |>.resolve_left (by simp)))
    have hmem : ∀ x, x ∈ q.1 ↔ (f x).isSome = true := fun x => ⟨fun hx => by
      have hi := List.idxOf_lt_length_of_mem hx
      have := hfv _ hi
      rw [nthN_some (List.getElem?_eq_some_iff.2 ⟨hi, List.getElem_idxOf hi⟩)] at this
      obtain ⟨u, hu⟩ := hall _ hi
      rw [this, hu]; rfl, hfs x⟩
    obtain ⟨D, hown, hperm, hsize⟩ := hmap.keys oka.nodup hmem
    have hfew := oka.few
    refine ((callsIn_wide (n := 5)).1 (Tryz.slices_Sorted_keys_38_39 m n D tyElem w1 hown (by rw [hsize]; unfold maxLen; omega) (by rw [hsize]; omega))).mono ?_
    rintro e w2 ⟨v, ks, rfl, hks, hrow, hnil, hbl⟩
    have hk2 : Keeps [] w1 w2 := (((Keeps.refl [] w1).alloc _)).trans0 ⟨hbl.os, hbl.tape, hbl.output, hbl.size, fun k hk _ => hbl.block k hk⟩
    have hmp2 : TMap w2 m n f := hmap.same (hk2.block _ hmap.lt (by simp))
    have hsort : ks.mergeSort (fun x y => decide (x ≤ y)) = ksOf q.1 := mergeSort_of_perm (hks.trans hperm.symm)
    rw [hsort] at hrow
    have hklen : ks.length = q.1.length := hks.length_eq.trans hperm.length_eq.symm
    have hkl2 : (ksOf q.1).length = q.1.length := List.length_mergeSort _
    obtain ⟨ad, cap, rfl, hcells⟩ := ownsRow_shape hrow
    rw [hklen] at hcells ⊢
    have hsz2 := hk2.size
    have hsz1 := HK.out.size
    have HK2 := Lib.hid (HK.out.trans0 hk2.kv0)
    have HB2 := Lib.hid (hk2.some HB1.out (by simp))
    have HC := Lib.hid hcells
    have HM2 := Lib.hid hmp2
    have HFV := Lib.hid hfv
    have HMEM := Lib.hid hmem
    have HKL := Lib.hid hkl2
    have HOKA := Lib.hid oka
    clear hks hrow hnil hbl hk2 hmp2 hsort hklen hcells hown hperm hsize hmap hfv hfs hra hrb hma oka okb hall hmem hkl2 hn
    go_wp2_with fail
    go_loopg [4, 5, 22] q.1.length (fun gg sn st i wx => ∃ (j : Nat) (wz : World), wz = wx ∧ gg = q.1.length - j ∧ i = .int .i64 j ∧ j ≤ q.1.length ∧ wx.ownsRow w2.heap.size 9 1 sn j (((ksOf q.1).take j).map sV) ∧ wx.ownsRow w2.heap.size 9 1 st j (((ksOf q.1).take j).map fun x => sV (textOf q.1 q.2.1 q.2.2 x)) ∧ (∀ k, sn.ownBlock = some k → st.ownBlock ≠ some k) ∧ Keeps [] w2 wx)
    case atStart => exact ⟨0, _, rfl, rfl, rfl, by omega, ⟨rfl, .inl ⟨rfl, rfl⟩⟩, ⟨rfl, .inl ⟨rfl, rfl⟩⟩, (fun k h => by cases h), Keeps.refl _ _⟩
    case round =>
      obtain ⟨j, wx, rfl, hg, rfl, hj, hsn, hst, hne, hkx⟩ := hrel
      have HG2 := Lib.hid hg
      have HSN := Lib.hid hsn
      have HST := Lib.hid hst
      have HNE := Lib.hid hne
      have HKX := Lib.hid hkx
      clear hg hsn hst hne hkx
      by_cases hlt : j < q.1.length
      · have hdl : decide ((j : Int) < (q.1.length : Int)) = true := by simpa using hlt
        obtain ⟨x, hx⟩ : ∃ x, (ksOf q.1)[j]? = some x := ⟨_, List.getElem?_eq_getElem (by rw [HKL.out]; exact hlt)⟩
        obtain ⟨g, rfl, hcell⟩ := HC.out j hlt
        rw [List.getElem?_map, hx] at hcell
        have hcx : wx.cell? ⟨g, j, none⟩ = some (.string (bs x)) := HKX.out.cellSome hcell (by simp)
        have HX := Lib.hid hx
        clear hcell hx
        obtain ⟨ib, hib, hib0, hib1, hib2⟩ := info_parts infoStr
        have hfw := HKX.out.size
        go_wp2_with (at_builtin; go_must (refine wpList_append_lies _ rfl _ _ 34 rfl w2.heap.size 9 ib (.string ⟨#[]⟩) 1 16 Tryz.underlying34 hib hib0 hib1 hib2 rfl (by decide) _ _ _ rfl (HSN.out.alloc _) ⟨wx.heap.size, 0, none⟩ 1 1 [.string (bs x)] rfl rfl ?c1 ?c2 (by decide) ?c3 ?c4 ?c5 _ rfl ?_))
        case c1 => exact cells_new wx [.string (bs x)] 9
        case c2 => intro u hu; simp at hu; subst hu; rfl
        case c3 => unfold maxLen; omega
        case c4 => omega
        case c5 => simp; omega
        intro g3 cp3 w3 hown3 hgr3 hlg3 hlt3
        have hk3 : Keeps [] w2 w3 := (HKX.out.alloc _).grown hgr3 (fun k e => .inr ((HSN.out.lt k e).1))
        have hst3 : w3.ownsRow w2.heap.size 9 1 _ j _ := ownsRow_same HST.out fun k hk => (hgr3.block k (by have := (HST.out.lt k hk).2; simp; omega) (fun e => HNE.out k e.symm hk)).trans (Below.heap_alloc _ _ _ (HST.out.lt k hk).2)
        have hmp3 : TMap w3 m n f := HM2.out.same (hk3.block _ HM2.out.lt (by simp))
        have hxg : x ∈ q.1 := (List.mergeSort_perm q.1 _).mem_iff.1 (List.mem_of_getElem? HX.out)
        have hxi := List.idxOf_lt_length_of_mem hxg
        have hlk := hmp3.look1 (bs x) (by rw [bs_size]; have := (HOKA.out.names x hxg).2.2.1; unfold maxLen; omega)
        have hfx : (f x).getD [] = textOf q.1 q.2.1 q.2.2 x := by
          have := HFV.out _ hxi
          rw [nthN_some (List.getElem?_eq_some_iff.2 ⟨hxi, List.getElem_idxOf hxi⟩)] at this
          rw [this]; rfl
        rw [bs_data, hfx] at hlk
        have hsz3 := hk3.size
        have hfl := fieldTy (textOf q.1 q.2.1 q.2.2 x) w3
        go_wp2_with (at_builtin; go_must (refine wpList_append_lies _ rfl _ _ 34 rfl w2.heap.size 9 ib (.string ⟨#[]⟩) 1 16 Tryz.underlying34 hib hib0 hib1 hib2 rfl (by decide) _ _ _ rfl (hst3.alloc _) ⟨w3.heap.size, 0, none⟩ 1 1 [.string (bs (textOf q.1 q.2.1 q.2.2 x))] rfl rfl ?d1 ?d2 (by decide) ?d3 ?d4 ?d5 _ rfl ?_))
        case d1 => exact cells_new w3 [.string (bs (textOf q.1 q.2.1 q.2.2 x))] 9
        case d2 => intro u hu; simp at hu; subst hu; rfl
        case d3 => unfold maxLen; omega
        case d4 => omega
        case d5 => simp; omega
        intro g4 cp4 w4 hown4 hgr4 hlg4 hlt4
        have hk4 : Keeps [] w2 w4 := (hk3.alloc _).grown hgr4 (fun k e => .inr ((hst3.lt k e).1))
        have hne34 : g3 ≠ g4 := by
          rintro rfl
          rcases hlg4 with e4 | e4
          · rcases hlg3 with e3 | e3
            · exact HNE.out _ e3 e4
            · have h1 := (HST.out.lt _ e4).2
              try simp at e3
              omega
          · try simp at e4
            omega
        have hown3' : w4.ownsRow w2.heap.size 9 1 _ (j + 1) _ := ownsRow_same hown3 fun k hk => by
          simp only [Value.ownBlock, Option.some.injEq] at hk
          subst hk
          refine (hgr4.block _ (by simp; omega) (fun e => ?_)).trans (Below.heap_alloc _ _ _ hlt3)
          rcases hlg3 with e3 | e3
          · exact HNE.out _ e3 e.symm
          · have h1 := (HST.out.lt _ e.symm).2
            try simp at e3
            omega
        have HN3 := Lib.hid hown3'
        have HN4 := Lib.hid hown4
        have HK4 := Lib.hid hk4
        have HNEW := Lib.hid hne34
        clear hown3 hgr3 hlg3 hlt3 hk3 hst3 hmp3 hxg hxi hlk hfl hfx hsz3 hown4 hgr4 hlg4 hlt4 hk4 hne34 hown3' hcx hib hib0 hib1 hib2
        go_wp2_with fail
        go_roundg (q.1.length - (j + 1))
        case measure => have := HG2.out; omega
        case rel =>
          refine ⟨j + 1, _, rfl, rfl, by go_num, by omega, ?_, ?_, ?_, HK4.out⟩
          · have := HN3.out; simpa [take_next' HX.out, List.map_append, List.map_take, sV] using this
          · have := HN4.out; simpa [take_next' HX.out, List.map_append, List.map_take, sV] using this
          · intro k hk hk'
            simp only [Value.ownBlock, Option.some.injEq] at hk hk'
            exact HNEW.out (hk.trans hk'.symm)
      · have hdl : decide ((j : Int) < (q.1.length : Int)) = false := by simpa using hlt
        have heq := eqlSomeM m wx
        have heq2 := eqlSomeM m wx.drew
        have hjl : (ksOf q.1).take j = ksOf q.1 := List.take_of_length_le (by rw [HKL.out]; omega)
        have hsn' := HSN.out
        have hst' := HST.out
        rw [hjl] at hsn' hst'
        have HS1 := Lib.hid (SRow.of_owns (xs := ksOf q.1) hsn' (by rw [HKL.out]; omega))
        have HS2 := Lib.hid (SRow.of_owns (xs := (ksOf q.1).map (textOf q.1 q.2.1 q.2.2)) (by rw [List.map_map]; exact hst') (by rw [List.length_map, HKL.out]; omega))
        obtain ⟨sa, sc, rfl, _⟩ := ownsRow_shape hsn'
        obtain ⟨ta', tc, rfl, _⟩ := ownsRow_shape hst'
        clear hjl hsn' hst'
        go_wp2_with fail
        refine (fault_nil _).mono ?_
        rintro e w5 ⟨rfl, hk5⟩
        have hk25 := HKX.out.trans0 hk5
        have hb2 := hk25.some HB2.out (by simp)
        have r0 := cell_of_block hb2 0
        have r1 := cell_of_block hb2 1
        have r2 := cell_of_block hb2 2
        have r3 := cell_of_block hb2 3
        have r4 := cell_of_block hb2 4
        have f0 := free_of_block hb2 0
        have f1 := free_of_block hb2 1
        have f2 := free_of_block hb2 2
        have f3 := free_of_block hb2 3
        have f4 := free_of_block hb2 4
        have HB5 := Lib.hid hb2
        have HK5 := Lib.hid (HK2.out.trans0 hk25.kv0)
        have HS15 := Lib.hid (HS1.out.keep hk5 (by simp))
        have HS25 := Lib.hid (HS2.out.keep hk5 (by simp))
        clear hb2 hk5 hk25 HB HB1
        go_wp2_with fail
        refine bodyPost_ret (v := .tuple #[.slice sa j sc, .slice ta' j tc, .bool false, faultV 0 0 ⟨#[]⟩ 0 0]) ?_ rfl ?_
        · simp [results, Tryz.results17, go_sem, r0, r1, r2, r3, r4]
        · have hkz : Keeps [w.heap.size] w5 (((((w5.setCell ⟨w.heap.size, 0, none⟩ (.int .i64 0)).setCell ⟨w.heap.size, 1, none⟩ (.int .i64 0)).setCell ⟨w.heap.size, 2, none⟩ (.string ⟨#[]⟩)).setCell ⟨w.heap.size, 3, none⟩ (.int .i64 0)).setCell ⟨w.heap.size, 4, none⟩ (.int .i64 0)) := by
            repeat (first | exact Keeps.refl _ _ | refine Keeps.setCell ?_ (Or.inl (by simp)) _)
          have hlt1 := lt_of_some HB2.out
          refine ⟨HK5.out.frame hkz (by simp) (by simp; rintro o ho; rw [HB5.out] at ho; cases ho; exact plainO_cells (by decide)), ?_⟩
          rw [HRE.out]
          exact ⟨_, _, rfl, (HS15.out.keep hkz (by simp; omega)).down (by omega), (HS25.out.keep hkz (by simp; omega)).down (by omega)⟩
end Go.Proofs.YtpbplpnifjbkoaaGreatDoor
