/-
  Types that were read, as the engine sees them; infer.scheme, by contract.
-/
import Derived.Test.YtpbplpnifjbkoabGreatDoorNamx
import Derived.Test.YtpbplpnifjbkoabGreatDoorTrd
import Derived.Test.YtpbplpnifjbkoabGreatDoorEnvx
import Derived.Deep.RegionLaw
import Derived.Test.YtpbplpnifjbkoabGreatDoorFu
namespace Go.Proofs.YtpbplpnifjbkoabGreatDoor
open Go.RowKit

/-- Nothing has become anything yet. -/
def idS (n : Nat) : Sub := (List.range n).map fun i => .var (i + 1)
theorem idS_len (n : Nat) : (idS n).length = n := by simp [idS]
theorem idS_look (n v : Nat) (h : 1 ≤ v) : Sub.look (idS n) v = .var v := by
  unfold Sub.look idS
  rw [List.getD_eq_getElem?_getD, List.getElem?_map]
  by_cases hv : v - 1 < n
  · rw [List.getElem?_range hv]
    simp
    omega
  · rw [List.getElem?_eq_none (by simp; omega)]
    rfl
theorem idS_add (n k : Nat) : idS (n + k) = idS n ++ (List.range k).map fun i => .var (n + i + 1) := by
  unfold idS
  rw [List.range_add, List.map_append, List.map_map]
  rfl
/-- Every variable's number is at least k. -/
def fromT (k : Nat) : Ty → Prop
  | .var n => k ≤ n
  | .int => True
  | .bool => True
  | .list a => fromT k a
  | .pair a b => fromT k a ∧ fromT k b
  | .arr a b => fromT k a ∧ fromT k b
theorem from_sh (n0 : Nat) (t : Ty) : fromT (n0 + 1) (shT n0 t) := by
  induction t with
  | var n => simp [shT, Ty.ren, Ty.put, fromT]
  | int => trivial
  | bool => trivial
  | list a ih => exact ih
  | pair a b iha ihb => exact ⟨iha, ihb⟩
  | arr a b iha ihb => exact ⟨iha, ihb⟩
theorem idS_ap (n k : Nat) (hk : 1 ≤ k) (t : Ty) (h : fromT k t) : t.ap (idS n) = t := by
  induction t with
  | var v => exact idS_look n v (Nat.le_trans hk h)
  | int => rfl
  | bool => rfl
  | list a ih => simp only [Ty.ap, ih h]
  | pair a b iha ihb => simp only [Ty.ap, iha h.1, ihb h.2]
  | arr a b iha ihb => simp only [Ty.ap, iha h.1, ihb h.2]
theorem shift_sh (n0 : Nat) (t : Ty) : t.shift (n0 + 1) = shT n0 t := by
  induction t with
  | var v => rfl
  | int => rfl
  | bool => rfl
  | list a ih => simp only [Ty.shift, ih]; rfl
  | pair a b iha ihb => simp only [Ty.shift, iha, ihb]; rfl
  | arr a b iha ihb => simp only [Ty.shift, iha, ihb]; rfl
theorem ap_grow [Inhabited Low] [Inhabited Bar] {vb : List Nat} {w : World} {S l : Sub} (hl : vb.length = S.length) (t : Ty) : ∀ (v : Value), TyE vb w (t.ap S) v → t.ap (S ++ l) = t.ap S := by
  induction t with
  | var n =>
    intro v h
    simp only [Ty.ap, Sub.look] at h ⊢
    rw [List.getD_eq_getElem?_getD, List.getD_eq_getElem?_getD]
    by_cases hn : n - 1 < S.length
    · rw [List.getElem?_append_left hn]
    · rw [List.getD_eq_getElem?_getD, List.getElem?_eq_none (by omega)] at h
      obtain ⟨b, nm, h1, h2, _⟩ := h
      have := (List.getElem?_eq_some_iff.1 h2).1
      omega
  | int => intro v _; rfl
  | bool => intro v _; rfl
  | list a ih => intro v h; obtain ⟨c, sv, va, _, _, _, h3⟩ := h; simp only [Ty.ap, ih va h3]
  | pair a b iha ihb => intro v h; obtain ⟨c, sv, va, vc, _, _, _, h3, h4⟩ := h; simp only [Ty.ap, iha va h3, ihb vc h4]
  | arr a b iha ihb => intro v h; obtain ⟨c, sv, va, vc, _, _, _, h3, h4⟩ := h; simp only [Ty.ap, iha va h3, ihb vc h4]
theorem RowV.e [Inhabited Bar] (hb : barB = []) {w : World} {sv : Value} {vs : List Value} (h : RowV w sv vs) : RowE w sv vs := by
  obtain ⟨g, cap, cs, h1, h2, h3⟩ := h
  exact ⟨g, cap, cs, h1, by rw [hb]; simp, h2, h3⟩
/-- A type that was read, as the engine sees it. -/
theorem TyB.te [Inhabited Low] [Inhabited Bar] (hb : barB = []) {n0 : Nat} {ns : List Bytes} {bl vb : List Nat} {w : World} (hl : vb.length = n0) : ∀ {t : Ty} {v : Value}, TyB (QB n0 ns bl) w t v → TyE (vb ++ bl) w t v
  | .var n, _, ⟨b, nm, e, f, h, q⟩ => ⟨b, nm, by have := q.1.1; omega, by
      have h1 := q.1.1
      rw [List.getElem?_append_right (by omega), show n - 1 - vb.length = n - (n0 + 1) by omega]
      exact q.2, by subst e; exact f, h⟩
  | .int, _, ⟨c, e, h⟩ => ⟨c, by subst e; exact .con rfl, by rw [hb]; simp, h⟩
  | .bool, _, ⟨c, e, h⟩ => ⟨c, by subst e; exact .con rfl, by rw [hb]; simp, h⟩
  | .list _, _, ⟨c, sv, va, e, h, h2, h3⟩ => ⟨c, sv, va, by subst e; exact .con rfl, ⟨by rw [hb]; simp, h⟩, h2.e hb, TyB.te hb hl h3⟩
  | .pair _ _, _, ⟨c, sv, va, vc, e, h, h2, h3, h4⟩ => ⟨c, sv, va, vc, by subst e; exact .con rfl, ⟨by rw [hb]; simp, h⟩, h2.e hb, TyB.te hb hl h3, TyB.te hb hl h4⟩
  | .arr _ _, _, ⟨c, sv, va, vc, e, h, h2, h3, h4⟩ => ⟨c, sv, va, vc, by subst e; exact .con rfl, ⟨by rw [hb]; simp, h⟩, h2.e hb, TyB.te hb hl h3, TyB.te hb hl h4⟩
theorem idS_fix (n : Nat) : (idS n).fix := by
  intro i t ht
  have hi : i < n := by have := (List.getElem?_eq_some_iff.1 ht).1; rwa [idS_len] at this
  have : t = .var (i + 1) := by
    unfold idS at ht
    rw [List.getElem?_map, List.getElem?_range hi] at ht
    simpa using ht.symm
  subst this
  exact idS_look n (i + 1) (by omega)
/-- Behind a type's reading: as many variables more. -/
theorem read_eng [Inhabited Low] [Inhabited Bar] (hb : barB = []) {ab n0 k : Nat} {vb bl : List Nat} {w w' : World} (hE : Eng ab vb (idS n0) w) (hk : KV [ab] w w') (hn : n0 + k ≤ 100000) (hl : bl.length = k) (hbl : BlkAt w' n0 bl)
    (hc : w'.heap[ab]? = some (.cells #[.int .i64 (n0 + k : Nat)] 113 (0, 0))) :
    Eng ab (vb ++ bl) (idS (n0 + k)) w' ∧ Stp [ab] vb (idS n0) w (vb ++ bl) (idS (n0 + k)) w' := by
  have hvl : vb.length = n0 := by rw [hE.len, idS_len]
  refine ⟨⟨by rw [List.length_append, idS_len]; omega, by rw [idS_len]; exact hn, Nat.le_trans hE.lo hk.size, fun x hx => by rw [hb] at hx; simp at hx, fun i b t hi ht => ?_, idS_fix _, by rw [idS_len]; exact hc⟩, hk.k0, ⟨bl, rfl⟩, fun t v h => ?_⟩
  · by_cases hil : i < vb.length
    · rw [List.getElem?_append_left hil] at hi
      have ht' : (idS n0)[i]? = some t := by
        rw [idS_add, List.getElem?_append_left (by rw [idS_len]; omega)] at ht
        exact ht
      exact (hk.te (hE.at_ i b t hi ht')).more
    · rw [List.getElem?_append_right (by omega)] at hi
      obtain ⟨⟨nm, h1⟩, h2⟩ := hbl _ _ hi
      have hin : i < n0 + k := by have := (List.getElem?_eq_some_iff.1 ht).1; rwa [idS_len] at this
      have ht' : t = .var (i + 1) := by
        unfold idS at ht
        rw [List.getElem?_map, List.getElem?_range hin] at ht
        simpa using ht.symm
      subst ht'
      rw [show n0 + 1 + (i - vb.length) = i + 1 by omega] at h1
      refine ⟨b, nm, by omega, ?_, .root rfl h1 h2, h1⟩
      rw [Nat.add_sub_cancel, List.getElem?_append_right (by omega)]
      exact hi
  · rw [idS_add, ap_grow (by rw [hvl, idS_len]) t v h]
    exact (hk.te h).more
end Go.Proofs.YtpbplpnifjbkoabGreatDoor

namespace Go.Proofs.YtpbplpnifjbkoabGreatDoor
open Go.RowKit

def SchPost [Inhabited Low] [Inhabited Bar] (a : Nat → Addr) (ab n0 : Nat) (vb : List Nat) (n t : Bytes) (w : World) (e : Ending) (w' : World) : Prop :=
  KV [ab] w w' ∧ if isName n = true then
    (match readTyp t with
    | .error f => ∃ c, e = .returned (.tuple #[.agg #[.nilIface, .map none], ifp 137 c]) ∧ EnvErrAt a w' c (bs n) (some f)
    | .ok q => ∃ bl tv m, e = .returned (.tuple #[.agg #[tv, m], .nilIface]) ∧ Eng ab (vb ++ bl) (idS (n0 + q.2.length)) w' ∧
        SchAt (vb ++ bl) (idS (n0 + q.2.length)) w' ⟨q.1.shift (n0 + 1), varsL (q.1.shift (n0 + 1)) []⟩ tv m ∧ Stp [ab] vb (idS n0) w (vb ++ bl) (idS (n0 + q.2.length)) w')
  else ∃ c, e = .returned (.tuple #[.agg #[.nilIface, .map none], ifp 137 c]) ∧ EnvErrAt a w' c (bs n) none

theorem errAt_keepsM {a : Nat → Addr} {w w' : World} {f : Nat × Nat} {v : Value} {M : List Nat} (h : ErrAt a w f v) (hk : Keeps M w w') (hM : ∀ m ∈ M, ∃ cs T z, w.heap[m]? = some (.cells cs T z) ∧ T ≠ 146) : ErrAt a w' f v := by
  rcases h with h | ⟨h2, c, hv, hc⟩
  · exact .inl h
  · refine .inr ⟨h2, c, hv, hk.some hc fun hm => ?_⟩
    obtain ⟨cs, T, z, h1, h3⟩ := hM c hm
    rw [hc] at h1
    cases h1
    exact h3 rfl
theorem isName_head (n : Bytes) (ts : List Tok) (hts : tokens kwExp n = ts) (hne : ts ≠ []) : isName n = (decide (headKind ts = .name) && decide (headText ts = n)) := by
  unfold isName
  rw [hts]
  cases ts with
  | nil => exact absurd rfl hne
  | cons t r =>
    simp only [headKind, headText]
    congr 1
    by_cases h : t.text = n
    · simp [h]
    · simp [h]

set_option maxRecDepth 100000 in
set_option maxHeartbeats 4000000 in
theorem scheme_any [Inhabited Low] [Inhabited Bar] (hbar : barB = []) {a : Nat → Addr} {B ab n0 : Nat} {vb : List Nat} {w : World} (hG : Gl a B w) (_hB : B ≤ lowB) (hab : B ≤ ab) (hE : Eng ab vb (idS n0) w) (hn0 : n0 ≤ 50000) (n t : Bytes) (hn : n.length ≤ 1000) :
    Calls Tryz.prog 49 #[.string (bs n), .string (bs t), .pointer (some ⟨ab, 0, none⟩)] w (SchPost a ab n0 vb n t w) := by
  have HG := Lib.hid hG
  have HE := Lib.hid hE
  have hk0 : Keeps [] w (w.alloc (.cells #[.nilIface, .map none] 119)) := (Keeps.refl [] w).alloc _
  have HK0 := Lib.hid hk0
  have HB0 := Lib.hid (block_alloc w (.cells #[.nilIface, .map none] 119))
  have hs0 : (w.alloc (.cells #[.nilIface, .map none] 119)).heap.size = w.heap.size + 1 := by simp
  have HN := Lib.hid (new_any kwExpFn kwExp_last (bs n) (w.alloc (.cells #[.nilIface, .map none] 119)) (by rw [bs_size]; unfold maxLen; omega))
  clear hk0
  have hmf : ∀ (fn : Fn) (first cap : Array Value) (w : World), (Instr.makeFunc fn first cap).run Tryz.prog w = .ok (.func fn first cap) w := fun _ _ _ _ => rfl
  clear hG hE
  go_enter Tryz.func49, Tryz.ntmps49
  go_wp2_with fail
  refine HN.out.mono ?_
  rintro e w1 ⟨rfl, hr, hk⟩
  rw [hs0] at hr ⊢
  obtain ⟨⟨h, hat, hnn, hts⟩, hfit⟩ := hr
  obtain ⟨e1, e2, e3⟩ := headOf hts
  rw [bs_data] at hts e1 e2 e3
  have hnil : tokens kwExp n ≠ [] := by intro e0; rw [e0] at hts; cases hts
  have HIS := Lib.hid (isName_head n _ rfl hnil)
  have c2 : w1.cell? ⟨w.heap.size + 1, 2, none⟩ = some (.string (bs (kstr h.tok.kind))) := cell_of_block hat 2
  have c3 : w1.cell? ⟨w.heap.size + 1, 3, none⟩ = some (.string (bs h.tok.text)) := cell_of_block hat 3
  have HK := Lib.hid hk
  have hb1 := hk.some HB0.out (by simp)
  have r0 := cell_of_block hb1 0
  have r1 := cell_of_block hb1 1
  have f0 := free_of_block hb1 0
  have f1 := free_of_block hb1 1
  have hl1 := lt_of_some hb1
  simp at r0 r1
  have HB1 := Lib.hid hb1
  have HE1 := Lib.hid e1
  have HE2 := Lib.hid e2
  clear hat hnn hts hfit e1 e2 e3 hk HN hnil hb1
  have qn : (bs (kstr .name)).toList = [97, 32, 110, 97, 109, 101] := by rw [ByteArray.toList_eq, bs_data]; rfl
  have HBAD := Lib.hid (fun (hin : isName n = false) => (show SchPost a ab n0 vb n t w (.returned (.tuple #[.agg #[.nilIface, .map none], ifp 137 w1.heap.size])) (((w1.setCell ⟨w.heap.size, 0, none⟩ .nilIface).setCell ⟨w.heap.size, 1, none⟩ (.map none)).alloc (.cells #[.string (bs n), .nilIface] 141)) by
    refine ⟨(((HK0.out.trans0 HK.out).trans (M' := [w.heap.size]) ((((Keeps.refl _ w1).setCell (.inl (by simp)) _).setCell (.inl (by simp)) _).alloc _) (by simp)).kv0).mono (by simp), ?_⟩
    rw [if_neg (by rw [hin]; simp)]
    have hb := block_alloc ((w1.setCell ⟨w.heap.size, 0, none⟩ .nilIface).setCell ⟨w.heap.size, 1, none⟩ (.map none)) (.cells #[.string (bs n), .nilIface] 141)
    rw [show ((w1.setCell ⟨w.heap.size, 0, none⟩ .nilIface).setCell ⟨w.heap.size, 1, none⟩ (.map none)).heap.size = w1.heap.size by simp] at hb
    exact ⟨_, rfl, _, hb, rfl⟩))
  by_cases h1 : h.tok.kind = .name
  · by_cases h2 : h.tok.text = n
    · have hin : isName n = true := by rw [HIS.out, HE1.out, HE2.out]; simp [h1, h2]
      have HIN := Lib.hid hin
      clear hin
      rw [h1] at c2
      rw [h2] at c3
      have hkw : Keeps [] w w1 := HK0.out.trans0 HK.out
      have HKW := Lib.hid hkw
      have hE1 := HE.out.kv hkw.kv0 (by simp)
      have HE1' := Lib.hid hE1
      have hcnt := hE1.cnt
      rw [idS_len] at hcnt
      have HR := Lib.hid (treadB_any w1 (HG.out.keeps hkw (by simp)) (bs t) ab n0 hcnt hn0 hab hE1.lo)
      clear hE1 hkw hcnt
      go_wp2_with fail
      refine HR.out.mono ?_
      rintro e w2 ⟨hk2, hp⟩
      rw [bs_data] at hp
      have hb2 := hk2.blk HB1.out (by simp; intro e0; have := HE1'.out.cnt; rw [← e0, HB1.out] at this; simp at this) (by simp)
      have r0 := cell_of_block hb2 0
      have r1 := cell_of_block hb2 1
      have f0 := free_of_block hb2 0
      have f1 := free_of_block hb2 1
      have hl1 := lt_of_some hb2
      simp at r0 r1
      have HB2 := Lib.hid hb2
      have HK2 := Lib.hid hk2
      clear hb2 hk2 HR c2 c3
      cases hrd : readTyp t with
      | error f =>
        rw [hrd] at hp
        obtain ⟨v, m, u, rfl, he⟩ := hp
        obtain ⟨et, ep, rfl⟩ := errAt_shape he
        have HER := Lib.hid he
        have HRD := Lib.hid hrd
        clear he hrd
        go_wp2_with fail
        have hkf : Keeps [w.heap.size] w2 (((w2.setCell ⟨w.heap.size, 0, none⟩ .nilIface).setCell ⟨w.heap.size, 1, none⟩ (.map none)).alloc (.cells #[.string (bs n), .iface et (.pointer ep)] 141)) := (((Keeps.refl _ w2).setCell (.inl (by simp)) _).setCell (.inl (by simp)) _).alloc _
        have hb := block_alloc ((w2.setCell ⟨w.heap.size, 0, none⟩ .nilIface).setCell ⟨w.heap.size, 1, none⟩ (.map none)) (.cells #[.string (bs n), .iface et (.pointer ep)] 141)
        rw [show ((w2.setCell ⟨w.heap.size, 0, none⟩ .nilIface).setCell ⟨w.heap.size, 1, none⟩ (.map none)).heap.size = w2.heap.size by simp] at hb
        refine bodyPost_ret (v := .tuple #[.agg #[.nilIface, .map none], ifp 137 w2.heap.size]) (by simp [results, Tryz.results49, go_sem, r0, r1, hl1]) rfl ⟨?_, ?_⟩
        · refine ((HKW.out.kv0.mono (by simp)).trans HK2.out (fun m hm => .inl hm)).frame hkf (by simp) ?_
          simp
          rintro o ho
          rw [HB2.out] at ho
          cases ho
          exact plainO_cells (by decide)
        · rw [if_pos HIN.out, HRD.out]
          refine ⟨_, rfl, _, hb, errAt_keepsM HER.out hkf fun m hm => ?_⟩
          simp only [List.mem_singleton] at hm
          subst hm
          exact ⟨_, _, _, HB2.out, by decide⟩
      | ok q =>
        rw [hrd] at hp
        obtain ⟨bl, v, m, rfl, hv, ⟨hbl, hbk⟩, hav⟩ := hp
        have HRD := Lib.hid hrd
        have hfew := (readTyp_ok hrd).few
        have hsz := (readTyp_ok hrd).size
        obtain ⟨hE2, hS2⟩ := read_eng hbar HE1'.out HK2.out (k := q.2.length) (by omega) hbl hbk hav
        have hte := TyB.te hbar (vb := vb) (by rw [HE1'.out.len, idS_len]) hv
        rw [← idS_ap (n0 + q.2.length) (n0 + 1) (by omega) _ (from_sh n0 q.1)] at hte
        have HTE := Lib.hid hte
        have HE2' := Lib.hid hE2
        have HS2 := Lib.hid hS2
        have HCL := Lib.hid (close_any (env := []) (ev := .pointer none) hE2 rfl hte (by simp only [envSize]; rw [idS_ap (n0 + q.2.length) (n0 + 1) (by omega) _ (from_sh n0 q.1), ren_size]; omega))
        obtain ⟨vt, vp, rfl⟩ : ∃ vt vp, v = .iface vt vp := by rcases hv.shape with ⟨_, rfl⟩ | ⟨_, rfl⟩ <;> exact ⟨_, _, rfl⟩
        clear hv hbk hav hrd hE2 hS2 hte
        go_wp2_with fail
        refine HCL.out.mono ?_
        rintro e w3 ⟨m', rfl, hset, hk3⟩
        have hb3 := hk3.blk HB2.out (by simp) (by simp)
        have r0 := cell_of_block hb3 0
        have r1 := cell_of_block hb3 1
        have f0 := free_of_block hb3 0
        have f1 := free_of_block hb3 1
        have hl1 := lt_of_some hb3
        simp at r0 r1
        have HB3 := Lib.hid hb3
        have HSET := Lib.hid hset
        have HK3 := Lib.hid hk3
        obtain ⟨mm, rfl⟩ : ∃ mm, m' = .map mm := by rcases hset with ⟨rfl, _⟩ | ⟨b, n, rfl, _⟩ <;> exact ⟨_, rfl⟩
        clear hb3 hset hk3
        go_wp2_with fail
        have hkf : Keeps [w.heap.size] w3 ((w3.setCell ⟨w.heap.size, 0, none⟩ (.iface vt vp)).setCell ⟨w.heap.size, 1, none⟩ (.map mm)) := ((Keeps.refl _ w3).setCell (.inl (by simp)) _).setCell (.inl (by simp)) _
        have hpl : ∀ m ∈ [w.heap.size], ∀ o, w3.heap[m]? = some o → plainO o := by
          simp
          rintro o ho
          rw [HB3.out] at ho
          cases ho
          exact plainO_cells (by decide)
        have kvf := hkf.kv hpl
        have hnab : ab ∉ [w.heap.size] := by
          have := lt_of_some HE.out.cnt
          simp
          omega
        have hkv : KV [ab] w ((w3.setCell ⟨w.heap.size, 0, none⟩ (.iface vt vp)).setCell ⟨w.heap.size, 1, none⟩ (.map mm)) := (((HKW.out.kv0.mono (by simp)).trans HK2.out (fun m hm => .inl hm)).trans0 HK3.out).frame hkf (by simp) hpl
        refine bodyPost_ret (v := .tuple #[.agg #[.iface vt vp, .map mm], .nilIface]) (by simp [results, Tryz.results49, go_sem, r0, r1]) rfl ⟨hkv, ?_⟩
        rw [if_pos HIN.out, HRD.out]
        have hall : (gen (idS (n0 + q.2.length)) [] (shT n0 q.1)).all = varsL (q.1.shift (n0 + 1)) [] := by
          simp only [gen]
          rw [idS_ap (n0 + q.2.length) (n0 + 1) (by omega) _ (from_sh n0 q.1), shift_sh]
          exact List.filter_eq_self.2 (fun v _ => rfl)
        refine ⟨bl, _, _, rfl, (HE2'.out.kv HK3.out (by simp)).kv kvf hnab, ⟨?_, ?_⟩, hkv.k0, ⟨bl, rfl⟩, fun t v h => kvf.te (HK3.out.te (HS2.out.ty t v (HKW.out.kv0.te h)))⟩
        · show TyE _ _ ((q.1.shift (n0 + 1)).ap _) _
          rw [shift_sh]
          exact kvf.te (HK3.out.te HTE.out)
        · have h1 := HSET.out
          rw [hall] at h1
          refine h1.keep kvf.k0 (fun m hm => ?_)
          simp only [List.mem_singleton] at hm
          subst hm
          exact ⟨_, _, _, HB3.out, by decide⟩
    · have hin : isName n = false := by rw [HIS.out, HE1.out, HE2.out]; simp [h2]
      have HIN := Lib.hid hin
      have hd : ((bs h.tok.text).toList == (bs n).toList) = false := by rw [ByteArray.toList_eq, ByteArray.toList_eq, bs_data, bs_data]; exact beq_eq_false_iff_ne.2 h2
      clear hin
      rw [h1] at c2
      go_wp2_with fail
      exact bodyPost_ret (v := .tuple #[.agg #[.nilIface, .map none], ifp 137 w1.heap.size]) (by simp [results, Tryz.results49, go_sem, r0, r1, hl1]) rfl (HBAD.out HIN.out)
  · have hin : isName n = false := by rw [HIS.out, HE1.out, HE2.out]; simp [h1]
    have HIN := Lib.hid hin
    have hd : ((bs (kstr h.tok.kind)).toList == [97, 32, 110, 97, 109, 101]) = false := by rw [← qn]; exact kne h1
    clear hin
    go_wp2_with fail
    exact bodyPost_ret (v := .tuple #[.agg #[.nilIface, .map none], ifp 137 w1.heap.size]) (by simp [results, Tryz.results49, go_sem, r0, r1, hl1]) rfl (HBAD.out HIN.out)
end Go.Proofs.YtpbplpnifjbkoabGreatDoor
