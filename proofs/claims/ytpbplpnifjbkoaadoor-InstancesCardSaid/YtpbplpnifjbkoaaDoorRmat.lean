/-
  The document's equal and Matched: by contracts.
-/
import Derived.Test.YtpbplpnifjbkoaaDoorRtyp
import Derived.Test.YtpbplpnifjbkoaaDoorTypl
import Derived.Test.YtpbplpnifjbkoaaDoorRcan
import Derived.Deep.RegionHeld3
namespace Go.Proofs.YtpbplpnifjbkoaaDoor
open Go.RowKit

theorem ty_ext {a b : Ty} : a = b ↔ kindT a = kindT b ∧ varN a = varN b ∧ kidsT a = kidsT b := by
  cases a <;> cases b <;> simp [kindT, varN, kidsT, kInt, kBool, kList, kPair, kFun]
theorem kids_len_kind {a b : Ty} (h : kindT a = kindT b) : (kidsT a).length = (kidsT b).length := by
  cases a <;> cases b <;> first | rfl | simp [kindT, kInt, kBool, kList, kPair, kFun] at h
theorem RRowC.at {w : World} {g : Nat} {vs : List Value} (h : RRowC w (some ⟨g, 0, none⟩) vs) {j : Nat} {v : Value} (hv : vs[j]? = some v) : w.cell? ⟨g, j, none⟩ = some v := by
  obtain ⟨g', h1, h2⟩ := h.cell hv
  cases h1
  exact h2
theorem eq_of_take {α : Type} {l l' : List α} (hl : l.length = l'.length) {j : Nat} (hj : l.length ≤ j) (h : l.take j = l'.take j) : l = l' := by
  rwa [List.take_of_length_le hj, List.take_of_length_le (by omega)] at h

theorem kids_has {t x : Ty} (hx : x ∈ kidsT t) : ∀ v, x.has v → t.has v := by
  intro v hv
  cases t with
  | var n => simp [kidsT] at hx
  | int => simp [kidsT] at hx
  | bool => simp [kidsT] at hx
  | list a => simp [kidsT] at hx; subst hx; exact hv
  | pair a b => simp [kidsT] at hx; rcases hx with rfl | rfl; exact .inl hv; exact .inr hv
  | arr a b => simp [kidsT] at hx; rcases hx with rfl | rfl; exact .inl hv; exact .inr hv
theorem varN_le {t : Ty} {k : Nat} (h : ∀ v, t.has v → v ≤ k) : varN t ≤ k := by
  cases t <;> first | exact h _ rfl | exact Nat.zero_le _

set_option maxRecDepth 100000 in
set_option maxHeartbeats 4000000 in
theorem requal_any (n : Nat) : ∀ (a : Ty), a.size ≤ n → ∀ (b : Ty) (w : World) (va vb : Value), RTy w a va → RTy w b vb → varN a ≤ 100000 → varN b ≤ 100000 →
    (∀ v, a.has v → v ≤ 100000) → (∀ v, b.has v → v ≤ 100000) →
    Calls Tryd.prog 37 #[va, vb] w fun e w' => e = .returned (.bool (decide (a = b))) ∧ Keeps [] w w' := by
  induction n with
  | zero => intro a h; have := a.size_pos; omega
  | succ n ih =>
    intro a ha b w va vb hva hvb hna hnb hba hbb
    obtain ⟨pa, ada, capa, vsa, rfl, hpa, hra, hka⟩ := hva.node
    obtain ⟨pb, adb, capb, vsb, rfl, hpb, hrb, hkb⟩ := hvb.node
    have a0 : w.cell? ⟨pa, 0, none⟩ = some (.string (bs (kindT a))) := cell_of_block hpa 0
    have a1 : w.cell? ⟨pa, 1, none⟩ = some (.int .i64 (varN a)) := cell_of_block hpa 1
    have a2 : w.cell? ⟨pa, 2, none⟩ = some (.slice ada vsa.length capa) := cell_of_block hpa 2
    have b0 : w.cell? ⟨pb, 0, none⟩ = some (.string (bs (kindT b))) := cell_of_block hpb 0
    have b1 : w.cell? ⟨pb, 1, none⟩ = some (.int .i64 (varN b)) := cell_of_block hpb 1
    have b2 : w.cell? ⟨pb, 2, none⟩ = some (.slice adb vsb.length capb) := cell_of_block hpb 2
    have hfa : vsa.length ≤ 2 := by rw [hka.1]; exact kids_few a
    have hfb : vsb.length ≤ 2 := by rw [hkb.1]; exact kids_few b
    have HIH := Lib.hid ih
    have HRA := Lib.hid hra
    have HRB := Lib.hid hrb
    have HKA := Lib.hid hka
    have HKB := Lib.hid hkb
    by_cases hk : kindT a = kindT b
    · have hkt : ((bs (kindT a)).toList == (bs (kindT b)).toList) = true := by rw [hk]; exact beq_self_eq_true _
      have hll : vsa.length = vsb.length := by rw [hka.1, hkb.1]; exact kids_len_kind hk
      by_cases hv : varN a = varN b
      · have hvt : (((varN a : Nat) : Int) == ((varN b : Nat) : Int)) = true := by rw [hv]; exact beq_self_eq_true _
        have hvt2 : decide (((varN a : Nat) : Int) = ((varN b : Nat) : Int)) = true := by rw [hv]; simp
        have HV := Lib.hid (show (a = b) ↔ kidsT a = kidsT b from ⟨fun e => by rw [e], fun e => ty_ext.2 ⟨hk, hv, e⟩⟩)
        have HLL := Lib.hid hll
        clear hpa hpb hra hrb hka hkb ih
        rw [hll] at a2 hfa
        rw [hk] at a0
        rw [hv] at a1
        go_enter Tryd.func37, Tryd.ntmps37
        go_wp2_with fail
        go_region
        all_goals
          go_wp2_with fail
          go_loopg [44] vsb.length (fun gg i wx => ∃ (j : Nat) (wz : World), wz = wx ∧ gg = vsb.length - j ∧ i = .int .i64 j ∧ j ≤ vsb.length ∧ (kidsT a).take j = (kidsT b).take j ∧ Keeps [] w wx)
          case atStart => exact ⟨0, _, rfl, rfl, rfl, by omega, rfl, (Keeps.refl [] w).drew⟩
          case round =>
            obtain ⟨j, wx, rfl, hg, rfl, hj, htk, hkx⟩ := hrel
            have HG2 := Lib.hid hg
            have HKX := Lib.hid hkx
            have HTK := Lib.hid htk
            have f1 : wx.cell? ⟨pa, 2, none⟩ = some (.slice ada vsb.length capa) := hkx.cellSome a2 (by simp)
            have f2 : wx.cell? ⟨pb, 2, none⟩ = some (.slice adb vsb.length capb) := hkx.cellSome b2 (by simp)
            clear hg hkx htk
            by_cases hlt : j < vsb.length
            · have hlta : j < vsa.length := by rw [HLL.out]; exact hlt
              have hja : j < (kidsT a).length := by rw [← HKA.out.1]; exact hlta
              have hjb : j < (kidsT b).length := by rw [← HKB.out.1]; exact hlt
              obtain ⟨xa, hxa⟩ : ∃ xa, (kidsT a)[j]? = some xa := ⟨_, List.getElem?_eq_getElem hja⟩
              obtain ⟨xb, hxb⟩ : ∃ xb, (kidsT b)[j]? = some xb := ⟨_, List.getElem?_eq_getElem hjb⟩
              obtain ⟨ya, hya⟩ : ∃ va, vsa[j]? = some va := ⟨_, List.getElem?_eq_getElem hlta⟩
              obtain ⟨yb, hyb⟩ : ∃ va, vsb[j]? = some va := ⟨_, List.getElem?_eq_getElem hlt⟩
              have hkd : Keeps [] w wx.drew := HKX.out.drew
              have htya := hkd.kr.ty (HKA.out.2 j xa ya hxa hya)
              have htyb := hkd.kr.ty (HKB.out.2 j xb yb hxb hyb)
              obtain ⟨g1, rfl, hcell1⟩ := (HKX.out.kr.rowC HRA.out).cell hya
              obtain ⟨g2, rfl, hcell2⟩ := (HKX.out.kr.rowC HRB.out).cell hyb
              have hsa := kids_lt (List.mem_of_getElem? hxa)
              have hta := kids_has (List.mem_of_getElem? hxa)
              have htb := kids_has (List.mem_of_getElem? hxb)
              have HCALL := Lib.hid (HIH.out xa (by omega) xb wx.drew ya yb htya htyb (varN_le fun v hv => hba v (hta v hv)) (varN_le fun v hv => hbb v (htb v hv)) (fun v hv => hba v (hta v hv)) (fun v hv => hbb v (htb v hv)))
              have HTN := Lib.hid (show (kidsT a).take (j + 1) = (kidsT b).take (j + 1) ↔ xa = xb by rw [take_next' hxa, take_next' hxb, HTK.out]; simp)
              have HNE := Lib.hid (show kidsT a = kidsT b → xa = xb from fun e => by rw [e, hxb] at hxa; exact (Option.some.inj hxa).symm)
              have hdl : decide ((j : Int) < (vsb.length : Int)) = true := by simpa using hlt
              obtain ⟨qa, rfl⟩ := htya.ptr
              obtain ⟨qb, rfl⟩ := htyb.ptr
              have HYA := Lib.hid hya
              have HYB := Lib.hid hyb
              clear htya htyb hya hyb hxa hxb hsa hta htb hkd
              go_wp2_with fail
              go_region_held3 (fun W => W.cell? ⟨pa, 2, none⟩ = some (.slice (some ⟨g1, 0, none⟩) vsb.length capa) ∧ W.cell? ⟨pb, 2, none⟩ = some (.slice (some ⟨g2, 0, none⟩) vsb.length capb) ∧ W.cell? ⟨g1, j, none⟩ = some (pV qa) ∧ W.cell? ⟨g2, j, none⟩ = some (pV qb))
                (first | exact ⟨f1, f2, hcell1, hcell2⟩ | exact ⟨y1, y2, y3, y4⟩)
                (first | (go_at_call 37; refine HCALL.out.mono ?_; rintro e w2 ⟨rfl, hk2⟩
                          have HK2 := Lib.hid (HKX.out.drew.trans0 hk2)
                          have y1 : w2.cell? ⟨pa, 2, none⟩ = some (.slice (some ⟨g1, 0, none⟩) vsb.length capa) := HK2.out.cellSome a2 (by simp)
                          have y2 : w2.cell? ⟨pb, 2, none⟩ = some (.slice (some ⟨g2, 0, none⟩) vsb.length capb) := HK2.out.cellSome b2 (by simp)
                          have y3 : w2.cell? ⟨g1, j, none⟩ = some (pV qa) := (HK2.out.kr.rowC HRA.out).at HYA.out
                          have y4 : w2.cell? ⟨g2, j, none⟩ = some (pV qb) := (HK2.out.kr.rowC HRB.out).at HYB.out
                          clear hk2))
              all_goals
                by_cases he : xa = xb
                · have hd : decide (xa = xb) = true := by simpa using he
                  have HE := Lib.hid he
                  clear he
                  rw [hd]
                  go_wp2_with fail
                  go_roundg (vsb.length - (j + 1))
                  case measure => have := HG2.out; omega
                  case rel => exact ⟨j + 1, _, rfl, rfl, by go_num, by omega, HTN.out.2 HE.out, HK2.out⟩
                · have hd : decide (xa = xb) = false := by simpa using he
                  have hab : decide (a = b) = false := by simp only [decide_eq_false_iff_not]; intro e; exact he (HNE.out (by rw [e]))
                  have HAB := Lib.hid hab
                  clear he hab
                  rw [hd]
                  go_wp2_with fail
                  go_ret
                  rw [HAB.out]
                  exact ⟨rfl, HK2.out⟩
            · have hdl : decide ((j : Int) < (vsb.length : Int)) = false := by simpa using hlt
              have hab : decide (a = b) = true := by
                simp only [decide_eq_true_eq]
                exact HV.out.2 (eq_of_take (by rw [← HKA.out.1, ← HKB.out.1, HLL.out]) (by rw [← HKA.out.1, HLL.out]; omega) HTK.out)
              have HAB := Lib.hid hab
              clear hab
              go_wp2_with fail
              go_ret
              rw [HAB.out]
              exact ⟨rfl, HKX.out⟩
      · have hvt : (((varN a : Nat) : Int) == ((varN b : Nat) : Int)) = false := by simp; omega
        have hvd : decide (((varN a : Nat) : Int) = ((varN b : Nat) : Int)) = false := by simp; omega
        have hvb' : (((varN a : Nat) : Int) != ((varN b : Nat) : Int)) = true := by simp; omega
        have HF := Lib.hid (show decide (a = b) = false by simp only [decide_eq_false_iff_not]; intro e; exact hv (by rw [e]))
        rw [hll] at a2 hfa
        rw [hk] at a0
        clear hpa hpb hra hrb hka hkb ih
        go_enter Tryd.func37, Tryd.ntmps37
        go_wp2_with fail
        go_region
        all_goals
          go_wp2_with fail
          go_ret
          rw [HF.out]
          exact ⟨rfl, by repeat (first | exact (Keeps.refl [] w) | refine Keeps.drew ?_)⟩
    · have hkt : ((bs (kindT a)).toList == (bs (kindT b)).toList) = false := by rw [ByteArray.toList_eq, ByteArray.toList_eq, bs_data, bs_data]; exact beq_eq_false_iff_ne.2 hk
      have HF := Lib.hid (show decide (a = b) = false by simp only [decide_eq_false_iff_not]; intro e; exact hk (by rw [e]))
      clear hpa hpb hra hrb hka hkb ih
      go_enter Tryd.func37, Tryd.ntmps37
      go_wp2_with fail
      go_region
      all_goals
        go_wp2_with fail
        go_ret
        rw [HF.out]
        exact ⟨rfl, by repeat (first | exact (Keeps.refl [] w) | refine Keeps.drew ?_)⟩
end Go.Proofs.YtpbplpnifjbkoaaDoor

namespace Go.Proofs.YtpbplpnifjbkoaaDoor
open Go.RowKit

theorem infoPTyp : (Tryd.prog.info? 38).map (fun i => (i.zero, i.size, i.bytes)) = some (some (.pointer none), 1, 8) := by kernel_rfl
theorem add_mk (b j : Nat) : (⟨b, 0, none⟩ : Addr).add j = ⟨b, j, none⟩ := by
  unfold Addr.add
  by_cases hj : j = 0
  · simp [hj]
  · simp [hj]
/-- What variables stand for so far: a row of types, nil where nothing is known. -/
def GotR (w : World) (sv : Value) (k : Nat) (g : List (Nat × Ty)) : Prop :=
  ∃ ad cap, sv = .slice ad k cap ∧ ∀ v, v < k → ∃ g0 cs x, ad = some ⟨g0, 0, none⟩ ∧ w.heap[g0]? = some (.cells cs 38 (0, 0)) ∧ cs[v]? = some x ∧ (match g.lookup v with | none => x = .pointer none | some u => RTy w u x)
theorem GotR.kr {w w' : World} {sv : Value} {k : Nat} {g : List (Nat × Ty)} (h : GotR w sv k g) (hk : KR w w') : GotR w' sv k g := by
  obtain ⟨ad, cap, hs, h⟩ := h
  refine ⟨ad, cap, hs, fun v hv => ?_⟩
  obtain ⟨g0, cs, x, h1, h2, h3, h4⟩ := h v hv
  refine ⟨g0, cs, x, h1, hk _ _ _ _ h2 (.inr rfl), h3, ?_⟩
  cases hl : g.lookup v with
  | none => rw [hl] at h4; exact h4
  | some u => rw [hl] at h4; exact hk.ty h4
theorem GotR.val {w : World} {ad : Option Addr} {cap k v : Nat} {g : List (Nat × Ty)} (h : GotR w (.slice ad k cap) k g) (hv : v < k) : ∃ g0 x, ad = some ⟨g0, 0, none⟩ ∧ w.cell? ⟨g0, v, none⟩ = some x ∧ (match g.lookup v with | none => x = .pointer none | some u => RTy w u x) ∧ (x = .pointer none ∨ ∃ b, x = pV b) := by
  obtain ⟨ad', cap', hs, h⟩ := h
  cases hs
  obtain ⟨g0, cs, x, h1, h2, h3, h4⟩ := h v hv
  refine ⟨g0, x, h1, (cell_of_block h2 v).trans h3, h4, ?_⟩
  cases hl : g.lookup v with
  | none => rw [hl] at h4; exact .inl h4
  | some u => rw [hl] at h4; exact .inr h4.ptr
/-- All elements. -/
theorem GotR.all {w : World} {g0 cap k : Nat} {g : List (Nat × Ty)} (h : GotR w (.slice (some ⟨g0, 0, none⟩) k cap) k g) : ∃ xs : List Value, xs.length = k ∧ (∀ (j : Nat) u, xs[j]? = some u → w.cell? ((⟨g0, 0, none⟩ : Addr).add j) = some u) ∧ (∀ u ∈ xs, u = .pointer none ∨ ∃ b, u = pV b) ∧
    ∀ v x, xs[v]? = some x → (match g.lookup v with | none => x = .pointer none | some u => RTy w u x) := by
  have hx : ∀ v, v < k → ∃ x, w.cell? ⟨g0, v, none⟩ = some x ∧ (match g.lookup v with | none => x = .pointer none | some u => RTy w u x) ∧ (x = .pointer none ∨ ∃ b, x = pV b) := fun v hv => by
    obtain ⟨g1, x, h1, h2, h3, h4⟩ := h.val hv
    cases h1
    exact ⟨x, h2, h3, h4⟩
  refine ⟨(List.range k).map fun v => (w.cell? ⟨g0, v, none⟩).getD (.pointer none), by simp, fun j u hj => ?_, fun u hu => ?_, fun v x hv => ?_⟩
  · rw [List.getElem?_map] at hj
    obtain ⟨j', h1, h2⟩ := Option.map_eq_some_iff.1 hj
    obtain ⟨h3, h4⟩ := List.getElem?_eq_some_iff.1 h1
    simp at h3 h4
    subst h4
    obtain ⟨x, hc, _⟩ := hx j h3
    rw [hc] at h2
    simp only [Option.getD_some] at h2
    subst h2
    rw [add_mk]
    exact hc
  · obtain ⟨v, hv, rfl⟩ := List.mem_map.1 hu
    obtain ⟨x, hc, _, hp⟩ := hx v (by simpa using hv)
    rw [hc]
    exact hp
  · rw [List.getElem?_map] at hv
    obtain ⟨j', h1, h2⟩ := Option.map_eq_some_iff.1 hv
    obtain ⟨h3, h4⟩ := List.getElem?_eq_some_iff.1 h1
    simp at h3 h4
    subst h4
    obtain ⟨y, hc, hm, _⟩ := hx v h3
    rw [hc] at h2
    simp only [Option.getD_some] at h2
    subst h2
    exact hm

theorem _root_.Go.World.ownsRow.rowBlock {w : World} {base g n cap : Nat} {e : TypeId} {xs : List Value} (h : w.ownsRow base e 1 (.slice (some ⟨g, 0, none⟩) n cap) n xs) : ∃ cur, w.heap[g]? = some (.cells cur e (0, 0)) ∧ ∀ (j : Nat) x, xs[j]? = some x → cur[j]? = some x := by
  rcases h.2 with ⟨e, _⟩ | ⟨g', cap', cur, e, h1, h2, h3, h4, h5, h6⟩
  · cases e
  · cases e
    refine ⟨cur, h2, fun j x hj => ?_⟩
    rw [← h6, List.getElem?_take] at hj
    split at hj
    · simpa using hj
    · cases hj

def RMPost (k : Nat) (w : World) (r : Option (List (Nat × Ty))) (e : Ending) (w' : World) : Prop :=
  Keeps [] w w' ∧ ∃ sv, match r with
    | some g => e = .returned (.tuple #[sv, .bool true]) ∧ GotR w' sv k g
    | none => e = .returned (.tuple #[sv, .bool false])
theorem RMPost.parts {k : Nat} {w w' : World} {r : Option (List (Nat × Ty))} {e : Ending} (h : RMPost k w r e w') :
    Keeps [] w w' ∧ ∃ sv c, e = .returned (.tuple #[sv, .bool c]) ∧ (c = true → ∃ g, r = some g ∧ GotR w' sv k g) ∧ (c = false → r = none) := by
  obtain ⟨h1, sv, h2⟩ := h
  refine ⟨h1, sv, ?_⟩
  cases r with
  | some g => exact ⟨true, h2.1, fun _ => ⟨g, rfl, h2.2⟩, fun h => by cases h⟩
  | none => exact ⟨false, h2, fun h => (by cases h), fun _ => rfl⟩
def RMatchOK (k : Nat) (a : Ty) : Prop := ∀ (b : Ty) (g : List (Nat × Ty)) (w : World) (va vb sv : Value), RTy w a va → RTy w b vb → GotR w sv k g → a.under k → (∀ v, b.has v → v ≤ 100000) → (∀ v u, g.lookup v = some u → ∀ x, u.has x → x ≤ 100000) →
  Calls Tryd.prog 16 #[va, vb, sv] w (RMPost k w (matchT a b g))

set_option maxRecDepth 100000 in
set_option maxHeartbeats 4000000 in
theorem rmatch_var (k : Nat) (hk : k ≤ 1000) (n : Nat) : RMatchOK k (.var n) := by
  intro b g w va vb sv hva hvb hgot hu hbb hgb
  have hu : n < k := hu
  obtain ⟨p, rfl, hp⟩ := hva
  obtain ⟨pb, rfl⟩ := hvb.ptr
  have a0 : w.cell? ⟨p, 0, none⟩ = some (.string (bs [])) := cell_of_block hp 0
  have a1 : w.cell? ⟨p, 1, none⟩ = some (.int .i64 n) := cell_of_block hp 1
  obtain ⟨ad, cap, rfl, _⟩ := id hgot
  obtain ⟨g0, x, rfl, hc, hx, hsh⟩ := hgot.val hu
  have hdl : (n : Int) < (k : Int) := by omega
  have hq : ((bs []).toList == []) = true := by rw [ByteArray.toList_eq, bs_data]; rfl
  have HG := Lib.hid hgot
  have HVB := Lib.hid hvb
  have HGB := Lib.hid hgb
  cases hl : g.lookup n with
  | some u =>
    rw [hl] at hx
    obtain ⟨px, rfl⟩ := hx.ptr
    have hmt := Lib.hid (show matchT (.var n) b g = if u = b then some g else none by simp [matchT, hl])
    have HEQ := Lib.hid (requal_any u.size u (Nat.le_refl _) b w _ _ hx hvb (varN_le (hgb n u hl)) (varN_le hbb) (hgb n u hl) hbb)
    have HEQ2 := Lib.hid (requal_any u.size u (Nat.le_refl _) b w.drew _ _ ((Keeps.refl [] w).drew.kr.ty hx) ((Keeps.refl [] w).drew.kr.ty hvb) (varN_le (hgb n u hl)) (varN_le hbb) (hgb n u hl) hbb)
    clear hp hx hl hsh hvb hgot hgb
    go_enter Tryd.func16, Tryd.ntmps16
    go_wp2_with fail
    refine HEQ.out.mono ?_
    rintro e w2 ⟨rfl, hk2⟩
    go_wp2
    go_ret2
    refine ⟨hk2, .slice (some ⟨g0, 0, none⟩) k cap, ?_⟩
    rw [hmt.out]
    by_cases he : u = b
    · rw [if_pos he, decide_eq_true he]
      exact ⟨rfl, HG.out.kr hk2.kr⟩
    · rw [if_neg he, decide_eq_false he]
      rfl
  | none =>
    rw [hl] at hx
    subst hx
    have hmt := Lib.hid (show matchT (.var n) b g = some ((n, b) :: g) by simp [matchT, hl])
    obtain ⟨xs, hxl, hxc, hxp, hxm⟩ := hgot.all
    obtain ⟨ib, hib, hib0, hib1, hib2⟩ := info_parts infoPTyp
    have h0 : w.ownsRow w.heap.size 38 1 (.slice none 0 0) 0 [] := ⟨rfl, .inl ⟨rfl, rfl⟩⟩
    clear hp hl hsh hvb hgot hgb
    go_enter Tryd.func16, Tryd.ntmps16
    go_wp2_with (at_builtin; go_must (refine wpList_append_lies _ rfl _ _ 45 rfl w.heap.size 38 ib (.pointer none) 1 8 Tryd.underlying45 hib hib0 hib1 hib2 rfl (by decide) _ _ _ rfl h0 ⟨g0, 0, none⟩ k cap xs rfl (by omega) hxc ?d2 (by omega) ?d3 ?d4 ?d5 _ rfl ?_))
    case d2 => intro u hu; rcases hxp u hu with rfl | ⟨q, rfl⟩ <;> rfl
    case d3 => unfold maxLen; omega
    case d4 => omega
    case d5 => omega
    intro g3 cp3 w3 hown3 hgr3 hlg3 hlt3
    obtain ⟨cur, hb3, hcur⟩ := hown3.rowBlock
    try simp only [List.nil_append] at hcur
    have hk3 : Keeps [] w w3 := (Keeps.refl [] w).grown hgr3 (fun k e => by cases e)
    have hg3 : w.heap.size ≤ g3 := (hown3.lt g3 rfl).1
    obtain ⟨xn, hxn⟩ : ∃ xn, xs[n]? = some xn := ⟨_, List.getElem?_eq_getElem (by omega)⟩
    have c3 : w3.cell? ⟨g3, n, none⟩ = some xn := (cell_of_block hb3 n).trans (hcur n xn hxn)
    have f3 := free_of_block hb3 n
    have a3 : w3.cell? ⟨p, 1, none⟩ = some (.int .i64 n) := hk3.cellSome a1 (by simp)
    have HB3 := Lib.hid hb3
    have HCUR := Lib.hid hcur
    have HK3 := Lib.hid hk3
    have HXM := Lib.hid hxm
    clear hown3 hgr3 hlg3 hlt3 hb3 hcur hk3 hxc hxp hxm hib hib0 hib1 hib2 h0
    go_wp2_with fail
    go_ret2
    have hb4 := block_setCell HB3.out n (pV pb)
    have hk4 : Keeps [] w (w3.setCell ⟨g3, n, none⟩ (pV pb)) := HK3.out.setCell (.inr hg3) _
    refine ⟨hk4, .slice (some ⟨g3, 0, none⟩) k cp3, ?_⟩
    rw [hmt.out]
    refine ⟨rfl, _, cp3, rfl, fun v hv => ?_⟩
    obtain ⟨xv, hxv⟩ : ∃ xv, xs[v]? = some xv := ⟨_, List.getElem?_eq_getElem (by omega)⟩
    have hcv := HCUR.out v xv hxv
    by_cases hvn : v = n
    · subst hvn
      refine ⟨g3, _, pV pb, rfl, hb4, ?_, ?_⟩
      · have := (Array.getElem?_eq_some_iff.1 hcv).1
        simp [this]
      · rw [List.lookup_cons, BEq.rfl]
        exact hk4.kr.ty HVB.out
    · refine ⟨g3, _, xv, rfl, hb4, ?_, ?_⟩
      · rw [Array.getElem?_setIfInBounds_ne (Ne.symm hvn)]; exact hcv
      · rw [List.lookup_cons, beq_false_of_ne hvn]
        have := HXM.out v xv hxv
        revert this
        cases hlv : g.lookup v with
        | none => exact fun h => h
        | some u => exact fun h => hk4.kr.ty h

/-! ### A type that is no variable -/
def matchKs : List Ty → List Ty → List (Nat × Ty) → Option (List (Nat × Ty))
  | a :: r, b :: s, g => (matchT a b g).bind (matchKs r s)
  | [], [], g => some g
  | _, _, _ => none
theorem matchT_kids' {a : Ty} (ha : isVarT a = false) (b : Ty) (g : List (Nat × Ty)) : matchT a b g = if kindT a = kindT b then matchKs (kidsT a) (kidsT b) g else none := by
  cases a <;> first
    | (simp [isVarT] at ha; done)
    | (cases b <;> simp [matchT, kindT, kidsT, matchKs, kInt, kBool, kList, kPair, kFun])
theorem matchKs_step {ka kb : List Ty} {j : Nat} {x y : Ty} {g : List (Nat × Ty)} (hx : ka[j]? = some x) (hy : kb[j]? = some y) :
    matchKs (ka.drop j) (kb.drop j) g = (matchT x y g).bind (matchKs (ka.drop (j + 1)) (kb.drop (j + 1))) := by
  obtain ⟨h1, rfl⟩ := List.getElem?_eq_some_iff.1 hx
  obtain ⟨h2, rfl⟩ := List.getElem?_eq_some_iff.1 hy
  rw [List.drop_eq_getElem_cons h1, List.drop_eq_getElem_cons h2]
  rfl
theorem kids_under' {k : Nat} {t x : Ty} (h : t.under k) (hx : x ∈ kidsT t) : x.under k := by
  cases t with
  | var n => simp [kidsT] at hx
  | int => simp [kidsT] at hx
  | bool => simp [kidsT] at hx
  | list a => simp [kidsT] at hx; subst hx; exact h
  | pair a b => simp [kidsT] at hx; rcases hx with rfl | rfl; exact h.1; exact h.2
  | arr a b => simp [kidsT] at hx; rcases hx with rfl | rfl; exact h.1; exact h.2
/-- What is known has only variables up to there. -/
def GHas (g : List (Nat × Ty)) : Prop := ∀ v u, g.lookup v = some u → ∀ x, u.has x → x ≤ 100000
theorem matchT_ghas (a : Ty) : ∀ (b : Ty) (g g' : List (Nat × Ty)), matchT a b g = some g' → (∀ v, b.has v → v ≤ 100000) → GHas g → GHas g' := by
  induction a with
  | var n =>
    intro b g g' h hb hg
    simp only [matchT] at h
    cases hl : g.lookup n with
    | some u =>
      rw [hl] at h
      simp only at h
      split at h
      · cases h; exact hg
      · cases h
    | none =>
      rw [hl] at h
      cases h
      intro v u hu
      rw [List.lookup_cons] at hu
      by_cases hv : v = n
      · subst hv; simp only [BEq.rfl, Option.some.injEq] at hu; exact hu ▸ hb
      · rw [beq_false_of_ne hv] at hu; exact hg v u hu
  | int => intro b g g' h; cases b <;> simp [matchT] at h; subst h; exact fun _ hg => hg
  | bool => intro b g g' h; cases b <;> simp [matchT] at h; subst h; exact fun _ hg => hg
  | list a ih =>
    intro b g g' h hb hg
    cases b <;> simp only [matchT, reduceCtorEq] at h
    exact ih _ _ _ h hb hg
  | pair a b iha ihb =>
    intro b' g g' h hb hg
    cases b' <;> simp only [matchT, reduceCtorEq] at h
    obtain ⟨g1, h1, h2⟩ := Option.bind_eq_some_iff.1 h
    exact ihb _ _ _ h2 (fun v hv => hb v (.inr hv)) (iha _ _ _ h1 (fun v hv => hb v (.inl hv)) hg)
  | arr a b iha ihb =>
    intro b' g g' h hb hg
    cases b' <;> simp only [matchT, reduceCtorEq] at h
    obtain ⟨g1, h1, h2⟩ := Option.bind_eq_some_iff.1 h
    exact ihb _ _ _ h2 (fun v hv => hb v (.inr hv)) (iha _ _ _ h1 (fun v hv => hb v (.inl hv)) hg)

set_option maxRecDepth 100000 in
set_option maxHeartbeats 4000000 in
theorem rmatch_any (k : Nat) (hk : k ≤ 1000) (m : Nat) : ∀ a : Ty, a.size ≤ m → RMatchOK k a := by
  induction m with
  | zero => intro a h; have := a.size_pos; omega
  | succ m ih =>
    intro a ha
    by_cases hav : isVarT a = true
    · obtain ⟨n, rfl⟩ : ∃ n, a = .var n := by cases a <;> first | exact ⟨_, rfl⟩ | simp [isVarT] at hav
      exact rmatch_var k hk n
    have hav := eq_false_of_ne_true hav
    intro b g w va vb sv hva hvb hgot hu hbb hgb
    obtain ⟨pa, ada, capa, vsa, rfl, hpa, hra, hka⟩ := hva.node
    obtain ⟨pb, adb, capb, vsb, rfl, hpb, hrb, hkb⟩ := hvb.node
    have hq : ((bs (kindT a)).toList == []) = false := by
      rw [ByteArray.toList_eq, bs_data]
      cases a <;> first | rfl | simp [isVarT] at hav
    have a0 : w.cell? ⟨pa, 0, none⟩ = some (.string (bs (kindT a))) := cell_of_block hpa 0
    have a2 : w.cell? ⟨pa, 2, none⟩ = some (.slice ada vsa.length capa) := cell_of_block hpa 2
    have b0 : w.cell? ⟨pb, 0, none⟩ = some (.string (bs (kindT b))) := cell_of_block hpb 0
    have b2 : w.cell? ⟨pb, 2, none⟩ = some (.slice adb vsb.length capb) := cell_of_block hpb 2
    have hfa : vsa.length ≤ 2 := by rw [hka.1]; exact kids_few a
    obtain ⟨adg, capg, rfl, _⟩ := id hgot
    have HG := Lib.hid hgot
    have HIH := Lib.hid ih
    have HRA := Lib.hid hra
    have HRB := Lib.hid hrb
    have HKA := Lib.hid hka
    have HKB := Lib.hid hkb
    have HGB := Lib.hid (show GHas g from hgb)
    have hmt := matchT_kids' hav b g
    by_cases hkd : kindT a = kindT b
    · have hkt : ((bs (kindT a)).toList == (bs (kindT b)).toList) = true := by rw [hkd]; exact beq_self_eq_true _
      have HMT := Lib.hid (show matchT a b g = matchKs (kidsT a) (kidsT b) g by rw [hmt, if_pos hkd])
      have hll : vsa.length = vsb.length := by rw [hka.1, hkb.1]; exact kids_len_kind hkd
      have HLL := Lib.hid hll
      have HU := Lib.hid hu
      have HBB := Lib.hid hbb
      clear hpa hpb hra hrb hka hkb hmt ih hgot hgb hkd hva hvb hu hbb
      rw [hll] at a2 hfa
      go_enter Tryd.func16, Tryd.ntmps16
      go_wp2_with fail
      go_region
      all_goals
        go_wp2_with fail
        go_loopg [2, 59] vsb.length (fun gg sv i wx => ∃ (j : Nat) (gj : List (Nat × Ty)) (wz : World), wz = wx ∧ gg = vsb.length - j ∧ i = .int .i64 j ∧ j ≤ vsb.length ∧ GotR wx sv k gj ∧ GHas gj ∧ matchKs (kidsT a) (kidsT b) g = matchKs ((kidsT a).drop j) ((kidsT b).drop j) gj ∧ Keeps [] w wx)
        case atStart => exact ⟨0, g, _, rfl, rfl, rfl, by omega, HG.out.kr (Keeps.refl [] w).drew.kr, HGB.out, rfl, (Keeps.refl [] w).drew⟩
        case round =>
          obtain ⟨j, gj, wx, rfl, hg, rfl, hj, hgx, hgh, hmx, hkx⟩ := hrel
          obtain ⟨adx, capx, rfl, _⟩ := id hgx
          have HG2 := Lib.hid hg
          have HKX := Lib.hid hkx
          have HGX := Lib.hid hgx
          have HGH := Lib.hid hgh
          have HMX := Lib.hid hmx
          have f1 : wx.cell? ⟨pa, 2, none⟩ = some (.slice ada vsb.length capa) := hkx.cellSome a2 (by simp)
          have f2 : wx.cell? ⟨pb, 2, none⟩ = some (.slice adb vsb.length capb) := hkx.cellSome b2 (by simp)
          clear hg hkx hgx hgh hmx
          by_cases hlt : j < vsb.length
          · have hlta : j < vsa.length := by rw [HLL.out]; exact hlt
            have hja : j < (kidsT a).length := by rw [← HKA.out.1]; exact hlta
            have hjb : j < (kidsT b).length := by rw [← HKB.out.1]; exact hlt
            obtain ⟨xa, hxa⟩ : ∃ xa, (kidsT a)[j]? = some xa := ⟨_, List.getElem?_eq_getElem hja⟩
            obtain ⟨xb, hxb⟩ : ∃ xb, (kidsT b)[j]? = some xb := ⟨_, List.getElem?_eq_getElem hjb⟩
            obtain ⟨ya, hya⟩ : ∃ va, vsa[j]? = some va := ⟨_, List.getElem?_eq_getElem hlta⟩
            obtain ⟨yb, hyb⟩ : ∃ va, vsb[j]? = some va := ⟨_, List.getElem?_eq_getElem hlt⟩
            have hkd : Keeps [] w wx.drew := HKX.out.drew
            have htya := hkd.kr.ty (HKA.out.2 j xa ya hxa hya)
            have htyb := hkd.kr.ty (HKB.out.2 j xb yb hxb hyb)
            obtain ⟨g1, rfl, hcell1⟩ := (HKX.out.kr.rowC HRA.out).cell hya
            obtain ⟨g2, rfl, hcell2⟩ := (HKX.out.kr.rowC HRB.out).cell hyb
            have hsa := kids_lt (List.mem_of_getElem? hxa)
            have hub := kids_under' HU.out (List.mem_of_getElem? hxa)
            have htb := kids_has (List.mem_of_getElem? hxb)
            have HXB := Lib.hid (show ∀ v, xb.has v → v ≤ 100000 from fun v hv => HBB.out v (htb v hv))
            have HCALL := Lib.hid (HIH.out xa (by omega) xb gj wx.drew ya yb _ htya htyb (HGX.out.kr (Keeps.refl [] wx).drew.kr) hub HXB.out HGH.out)
            have HST := Lib.hid (HMX.out.trans (matchKs_step (g := gj) hxa hxb))
            have hdl : decide ((j : Int) < (vsb.length : Int)) = true := by simpa using hlt
            obtain ⟨qa, rfl⟩ := htya.ptr
            obtain ⟨qb, rfl⟩ := htyb.ptr
            have HYA := Lib.hid hya
            have HYB := Lib.hid hyb
            clear htya htyb hya hyb hxa hxb hsa hub htb hkd
            go_wp2_with fail
            go_region_held3 (fun W => W.cell? ⟨pa, 2, none⟩ = some (.slice (some ⟨g1, 0, none⟩) vsb.length capa) ∧ W.cell? ⟨pb, 2, none⟩ = some (.slice (some ⟨g2, 0, none⟩) vsb.length capb) ∧ W.cell? ⟨g1, j, none⟩ = some (pV qa) ∧ W.cell? ⟨g2, j, none⟩ = some (pV qb))
              (first | exact ⟨f1, f2, hcell1, hcell2⟩ | exact ⟨y1, y2, y3, y4⟩)
              (first | (go_at_call 16; refine HCALL.out.mono ?_; rintro e w2 hpost
                        obtain ⟨hk2, sv2, bc, rfl, hct, hcf⟩ := RMPost.parts hpost
                        have HK2 := Lib.hid (HKX.out.drew.trans0 hk2)
                        have HCT := Lib.hid hct
                        have HCF := Lib.hid hcf
                        have y1 : w2.cell? ⟨pa, 2, none⟩ = some (.slice (some ⟨g1, 0, none⟩) vsb.length capa) := HK2.out.cellSome a2 (by simp)
                        have y2 : w2.cell? ⟨pb, 2, none⟩ = some (.slice (some ⟨g2, 0, none⟩) vsb.length capb) := HK2.out.cellSome b2 (by simp)
                        have y3 : w2.cell? ⟨g1, j, none⟩ = some (pV qa) := (HK2.out.kr.rowC HRA.out).at HYA.out
                        have y4 : w2.cell? ⟨g2, j, none⟩ = some (pV qb) := (HK2.out.kr.rowC HRB.out).at HYB.out
                        clear hk2 hct hcf hpost))
            all_goals
              cases bc with
              | true =>
                obtain ⟨g', hg', hgot'⟩ := HCT.out rfl
                obtain ⟨ad2, cap2, rfl, _⟩ := id hgot'
                have HGOT' := Lib.hid hgot'
                have HGE := Lib.hid hg'
                clear hg' hgot'
                go_wp2_with fail
                go_roundg (vsb.length - (j + 1))
                case measure => have := HG2.out; omega
                case rel => exact ⟨j + 1, g', _, rfl, rfl, by go_num, by omega, HGOT'.out, matchT_ghas xa _ _ _ HGE.out HXB.out HGH.out, by rw [HST.out, HGE.out]; rfl, HK2.out⟩
              | false =>
                go_wp2_with fail
                go_ret2
                rw [HMT.out, HST.out, HCF.out (by simp)]
                exact ⟨HK2.out, .slice adx k capx, rfl⟩
          · have hdl : decide ((j : Int) < (vsb.length : Int)) = false := by simpa using hlt
            have HLA := Lib.hid (show (kidsT a).drop j = [] from List.drop_eq_nil_of_le (by rw [← HKA.out.1, HLL.out]; omega))
            have HLB := Lib.hid (show (kidsT b).drop j = [] from List.drop_eq_nil_of_le (by rw [← HKB.out.1]; omega))
            go_wp2_with fail
            go_ret2
            rw [HMT.out, HMX.out, HLA.out, HLB.out]
            exact ⟨HKX.out, .slice adx k capx, rfl, HGX.out⟩
    · have hkt : ((bs (kindT a)).toList == (bs (kindT b)).toList) = false := by rw [ByteArray.toList_eq, ByteArray.toList_eq, bs_data, bs_data]; exact beq_eq_false_iff_ne.2 hkd
      have HMT := Lib.hid (show matchT a b g = none by rw [hmt, if_neg hkd])
      clear hpa hpb hra hrb hka hkb hmt ih hgot hgb hkd hva hvb
      go_enter Tryd.func16, Tryd.ntmps16
      go_wp2_with fail
      go_region
      all_goals
        go_wp2_with fail
        go_ret2
        rw [HMT.out]
        exact ⟨by repeat (first | exact (Keeps.refl [] w) | refine Keeps.drew ?_), .slice adg k capg, rfl⟩
end Go.Proofs.YtpbplpnifjbkoaaDoor

namespace Go.Proofs.YtpbplpnifjbkoaaDoor
open Go.RowKit

/-- A slice of names: of each variable that stands in the type. -/
def NmRowA (w : World) (nad : Option Addr) (len : Nat) (nm : Nat → Bytes) (t : Ty) : Prop := ∀ v, t.has v → v < len ∧ ∃ gn, nad = some ⟨gn, 0, none⟩ ∧ w.cell? ⟨gn, v, none⟩ = some (.string (bs (nm v)))
theorem NmRowA.keep {w w' : World} {nad : Option Addr} {len : Nat} {nm : Nat → Bytes} {t : Ty} (h : NmRowA w nad len nm t) (hk : Keeps [] w w') : NmRowA w' nad len nm t := fun v hv => ⟨(h v hv).1, by obtain ⟨gn, h1, h2⟩ := (h v hv).2; exact ⟨gn, h1, hk.cellSome h2 (by simp)⟩⟩
def RShowA (nad : Option Addr) (len cap : Nat) (nm : Nat → Bytes) (t : Ty) : Prop := ∀ (w : World) (v : Value), RTy w t v → NmRowA w nad len nm t →
  Calls Tryd.prog 17 #[v, .slice nad len cap] w fun e w' => e = .returned (.string (bs (shown nm t))) ∧ Keeps [] w w'
theorem kkA (t : Ty) (l : Bytes) : ((bs (kindT t)).toList == l) = (kindT t == l) := by rw [ByteArray.toList_eq, bs_data]

set_option maxRecDepth 100000 in
set_option maxHeartbeats 4000000 in
theorem rshowA_var (nad : Option Addr) (len cap : Nat) (nm : Nat → Bytes) (n : Nat) : RShowA nad len cap nm (.var n) := by
  intro w v hv hn
  obtain ⟨b, rfl, hb⟩ := hv
  obtain ⟨hl, gn, rfl, hc⟩ := hn n rfl
  have c0 : w.cell? ⟨b, 0, none⟩ = some (.string (bs [])) := cell_of_block hb 0
  have c1 : w.cell? ⟨b, 1, none⟩ = some (.int .i64 n) := cell_of_block hb 1
  have q0 : ((bs []).toList == []) = true := by rw [ByteArray.toList_eq, bs_data]; rfl
  have i0 : (0 : Int) ≤ (n : Int) := by omega
  have i1 : (n : Int) < (len : Int) := by omega
  clear hb hn
  go_enter Tryd.func17, Tryd.ntmps17
  go_wp2
  go_ret
  exact ⟨rfl, Keeps.refl _ _⟩
set_option maxRecDepth 100000 in
set_option maxHeartbeats 4000000 in
theorem rshowA_int (nad : Option Addr) (len cap : Nat) (nm : Nat → Bytes) : RShowA nad len cap nm .int := by
  intro w v hv _
  obtain ⟨b, rfl, hb⟩ := hv
  have c0 : w.cell? ⟨b, 0, none⟩ = some (.string (bs tInt)) := cell_of_block hb 0
  have q0 : ((bs tInt).toList == []) = false ∧ ((bs tInt).toList == tList) = false ∧ ((bs tInt).toList == tPair) = false ∧ ((bs tInt).toList == tFun) = false := by simp only [ByteArray.toList_eq, bs_data]; decide
  obtain ⟨q0, q1, q2, q3⟩ := q0
  clear hb
  go_enter Tryd.func17, Tryd.ntmps17
  go_wp2
  go_ret
  exact ⟨rfl, Keeps.refl _ _⟩
set_option maxRecDepth 100000 in
set_option maxHeartbeats 4000000 in
theorem rshowA_bool (nad : Option Addr) (len cap : Nat) (nm : Nat → Bytes) : RShowA nad len cap nm .bool := by
  intro w v hv _
  obtain ⟨b, rfl, hb⟩ := hv
  have c0 : w.cell? ⟨b, 0, none⟩ = some (.string (bs tBool)) := cell_of_block hb 0
  have q0 : ((bs tBool).toList == []) = false ∧ ((bs tBool).toList == tList) = false ∧ ((bs tBool).toList == tPair) = false ∧ ((bs tBool).toList == tFun) = false := by simp only [ByteArray.toList_eq, bs_data]; decide
  obtain ⟨q0, q1, q2, q3⟩ := q0
  clear hb
  go_enter Tryd.func17, Tryd.ntmps17
  go_wp2
  go_ret
  exact ⟨rfl, Keeps.refl _ _⟩
set_option maxRecDepth 100000 in
set_option maxHeartbeats 4000000 in
theorem rshowA_list (nad : Option Addr) (len cap : Nat) (nm : Nat → Bytes) (a : Ty) (hl : (shown nm (.list a)).length ≤ 1000000) (ih : RShowA nad len cap nm a) : RShowA nad len cap nm (.list a) := by
  intro w v hv hn
  obtain ⟨b, sv, va, rfl, hb, ⟨g, cp, cs, rfl, hg, hcs⟩, hva⟩ := hv
  obtain ⟨ab, rfl⟩ := hva.ptr
  have c0 : w.cell? ⟨b, 0, none⟩ = some (.string (bs tList)) := cell_of_block hb 0
  have c2 : w.cell? ⟨b, 2, none⟩ = some (.slice (some ⟨g, 0, none⟩) 1 cp) := cell_of_block hb 2
  have g0 : w.cell? ⟨g, 0, none⟩ = some (pV ab) := (cell_of_block hg 0).trans (hcs 0 _ rfl)
  have q0 : ((bs tList).toList == []) = false ∧ ((bs tList).toList == tList) = true := by simp only [ByteArray.toList_eq, bs_data]; decide
  obtain ⟨q0, q1⟩ := q0
  simp only [shown, List.length_append, List.length_cons, List.length_nil] at hl
  have s0 : ¬ 9223372036854775807 < 1 + (bs (shown nm a)).size := by rw [bs_size]; omega
  have s1 : ¬ 9223372036854775807 < 1 + (bs (shown nm a)).size + 1 := by rw [bs_size]; omega
  have HC := Lib.hid (ih w _ hva fun v h => hn v h)
  clear hb hg hcs hva hn ih hl
  go_enter Tryd.func17, Tryd.ntmps17
  go_wp2_with fail
  refine HC.out.mono ?_
  rintro e w2 ⟨rfl, hk⟩
  go_wp2
  go_ret
  refine ⟨congrArg (fun b => Ending.returned (.string b)) ?_, hk⟩
  apply ba_ext
  simp only [ByteArray.data_append, Array.toList_append, bs_data, shown]
set_option maxRecDepth 100000 in
set_option maxHeartbeats 4000000 in
theorem rshowA_arr (nad : Option Addr) (len cap : Nat) (nm : Nat → Bytes) (a c : Ty) (hl : (shown nm (.arr a c)).length ≤ 1000000) (iha : RShowA nad len cap nm a) (ihc : RShowA nad len cap nm c) : RShowA nad len cap nm (.arr a c) := by
  intro w v hv hn
  obtain ⟨b, sv, va, vc, rfl, hb, ⟨g, cp, cs, rfl, hg, hcs⟩, hva, hvc⟩ := hv
  obtain ⟨ab, ad, acap, avs, rfl, hab, _, _⟩ := hva.node
  obtain ⟨cb, rfl⟩ := hvc.ptr
  have c0 : w.cell? ⟨b, 0, none⟩ = some (.string (bs tFun)) := cell_of_block hb 0
  have c2 : w.cell? ⟨b, 2, none⟩ = some (.slice (some ⟨g, 0, none⟩) 2 cp) := cell_of_block hb 2
  have g0 : w.cell? ⟨g, 0, none⟩ = some (pV ab) := (cell_of_block hg 0).trans (hcs 0 _ rfl)
  have g1 : w.cell? ⟨g, 1, none⟩ = some (pV cb) := (cell_of_block hg 1).trans (hcs 1 _ rfl)
  have k0 : w.cell? ⟨ab, 0, none⟩ = some (.string (bs (kindT a))) := cell_of_block hab 0
  have q0 : ((bs tFun).toList == []) = false ∧ ((bs tFun).toList == tList) = false ∧ ((bs tFun).toList == tPair) = false ∧ ((bs tFun).toList == tFun) = true := by simp only [ByteArray.toList_eq, bs_data]; decide
  obtain ⟨q0, q1, q2, q3⟩ := q0
  have q9 : ((bs (kindT a)).toList == tFun) = isArr a := by rw [ByteArray.toList_eq, bs_data]; cases a <;> rfl
  have HC := Lib.hid (iha w _ hva fun v h => hn v (.inl h))
  have HD := Lib.hid (fun (w2 : World) (hk : Keeps [] w w2) => ihc w2 _ (hk.kr.ty hvc) (NmRowA.keep (fun v h => hn v (.inr h)) hk))
  have HC0 := Lib.hid c0
  clear hb hg hcs hva hvc hn iha ihc hab
  cases hia : isArr a with
  | true =>
    rw [hia] at q9
    simp only [shown, hia, if_true, par, List.length_append, List.length_cons, List.length_nil] at hl
    have s0 : ¬ 9223372036854775807 < 1 + (bs (shown nm a)).size := by rw [bs_size]; omega
    have s1 : ¬ 9223372036854775807 < 1 + (bs (shown nm a)).size + 1 := by rw [bs_size]; omega
    have s2 : ¬ 9223372036854775807 < 1 + (bs (shown nm a)).size + 1 + 4 := by rw [bs_size]; omega
    have s3 : ¬ 9223372036854775807 < 1 + (bs (shown nm a)).size + 1 + 4 + (bs (shown nm c)).size := by simp only [bs_size]; omega
    have HIS := Lib.hid hia
    clear hl hia
    go_enter Tryd.func17, Tryd.ntmps17
    go_wp2_with fail
    refine HC.out.mono ?_
    rintro e w2 ⟨rfl, hk⟩
    have d2 := hk.cellSome c2 (by simp)
    have e0 := hk.cellSome g0 (by simp)
    have e1 := hk.cellSome g1 (by simp)
    have k1 := hk.cellSome k0 (by simp)
    have HE := Lib.hid (HD.out w2 hk)
    have HK := Lib.hid hk
    clear hk c0 c2 g0 g1 k0
    go_wp2_with fail
    refine HE.out.mono ?_
    rintro e w3 ⟨rfl, hk⟩
    go_wp2
    go_ret
    refine ⟨congrArg (fun b => Ending.returned (.string b)) ?_, HK.out.trans0 hk⟩
    apply ba_ext
    simp only [ByteArray.data_append, Array.toList_append, bs_data, shown, HIS.out, par, if_true]
  | false =>
    rw [hia] at q9
    simp only [shown, hia, Bool.false_eq_true, if_false, List.length_append, List.length_cons, List.length_nil] at hl
    have s2 : ¬ 9223372036854775807 < (bs (shown nm a)).size + 4 := by rw [bs_size]; omega
    have s3 : ¬ 9223372036854775807 < (bs (shown nm a)).size + 4 + (bs (shown nm c)).size := by simp only [bs_size]; omega
    have HIS := Lib.hid hia
    clear hl hia
    go_enter Tryd.func17, Tryd.ntmps17
    go_wp2_with fail
    refine HC.out.mono ?_
    rintro e w2 ⟨rfl, hk⟩
    have d2 := hk.cellSome c2 (by simp)
    have e0 := hk.cellSome g0 (by simp)
    have e1 := hk.cellSome g1 (by simp)
    have k1 := hk.cellSome k0 (by simp)
    have HE := Lib.hid (HD.out w2 hk)
    have HK := Lib.hid hk
    clear hk c0 c2 g0 g1 k0
    go_wp2_with fail
    refine HE.out.mono ?_
    rintro e w3 ⟨rfl, hk⟩
    go_wp2
    go_ret
    refine ⟨congrArg (fun b => Ending.returned (.string b)) ?_, HK.out.trans0 hk⟩
    apply ba_ext
    simp only [ByteArray.data_append, Array.toList_append, bs_data, shown, HIS.out, Bool.false_eq_true, if_false]
set_option maxRecDepth 100000 in
set_option maxHeartbeats 4000000 in
theorem rshowA_pair (nad : Option Addr) (len cap : Nat) (nm : Nat → Bytes) (a c : Ty) (hl : (shown nm (.pair a c)).length ≤ 1000000) (iha : RShowA nad len cap nm a) (ihc : RShowA nad len cap nm c) : RShowA nad len cap nm (.pair a c) := by
  intro w v hv hn
  obtain ⟨b, sv, va, vc, rfl, hb, ⟨g, cp, cs, rfl, hg, hcs⟩, hva, hvc⟩ := hv
  obtain ⟨ab, rfl⟩ := hva.ptr
  obtain ⟨cb, rfl⟩ := hvc.ptr
  have c0 : w.cell? ⟨b, 0, none⟩ = some (.string (bs tPair)) := cell_of_block hb 0
  have c2 : w.cell? ⟨b, 2, none⟩ = some (.slice (some ⟨g, 0, none⟩) 2 cp) := cell_of_block hb 2
  have g0 : w.cell? ⟨g, 0, none⟩ = some (.pointer (some ⟨ab, 0, none⟩)) := (cell_of_block hg 0).trans (hcs 0 _ rfl)
  have g1 : w.cell? ⟨g, 1, none⟩ = some (.pointer (some ⟨cb, 0, none⟩)) := (cell_of_block hg 1).trans (hcs 1 _ rfl)
  have q0 : ((bs tPair).toList == []) = false ∧ ((bs tPair).toList == tList) = false ∧ ((bs tPair).toList == tPair) = true := by simp only [ByteArray.toList_eq, bs_data]; decide
  obtain ⟨q0, q1, q2⟩ := q0
  have HA := Lib.hid (fun (w2 : World) (hk : Keeps [] w w2) => iha w2 _ (hk.kr.ty hva) (NmRowA.keep (fun v h => hn v (.inl h)) hk))
  have HD := Lib.hid (fun (w2 : World) (hk : Keeps [] w w2) => ihc w2 _ (hk.kr.ty hvc) (NmRowA.keep (fun v h => hn v (.inr h)) hk))
  simp only [shown, List.length_append, List.length_cons, List.length_nil] at hl
  have s0 : ¬ 9223372036854775807 < 1 + (bs (shown nm a)).size := by simp only [bs_size]; omega
  have s1 : ¬ 9223372036854775807 < 1 + (bs (shown nm a)).size + 2 := by simp only [bs_size]; omega
  have s2 : ¬ 9223372036854775807 < 1 + (bs (shown nm a)).size + 2 + (bs (shown nm c)).size := by simp only [bs_size]; omega
  have s3 : ¬ 9223372036854775807 < 1 + (bs (shown nm a)).size + 2 + (bs (shown nm c)).size + 1 := by simp only [bs_size]; omega
  clear hb hg hcs hva hvc hn iha ihc hl
  go_enter Tryd.func17, Tryd.ntmps17
  go_wp2_with fail
  clear c0 q0 q1 q2
  go_region_held3 (fun W => W.cell? ⟨b, 2, none⟩ = some (.slice (some ⟨g, 0, none⟩) 2 cp) ∧ W.cell? ⟨g, 0, none⟩ = some (.pointer (some ⟨ab, 0, none⟩)) ∧ W.cell? ⟨g, 1, none⟩ = some (.pointer (some ⟨cb, 0, none⟩)) ∧ Keeps [] w W)
    (first | exact ⟨(Keeps.refl [] w).drew.cellSome c2 (by simp), (Keeps.refl [] w).drew.cellSome g0 (by simp), (Keeps.refl [] w).drew.cellSome g1 (by simp), (Keeps.refl [] w).drew⟩ | exact ⟨hka.cellSome c2 (by simp), hka.cellSome g0 (by simp), hka.cellSome g1 (by simp), hka⟩ | exact ⟨hkc.cellSome c2 (by simp), hkc.cellSome g0 (by simp), hkc.cellSome g1 (by simp), hkc⟩)
    (first | (go_at_call_of 17 (Value.pointer (some (Addr.mk ab 0 none))); refine (HA.out _ ?_).mono ?_; (first | exact (Keeps.refl [] w).drew | assumption); rintro e Wa ⟨rfl, hza⟩; have hka := Keeps.trans0 (show Keeps [] w _ by first | exact (Keeps.refl [] w).drew | assumption) hza; clear hza)
           | (go_at_call_of 17 (Value.pointer (some (Addr.mk cb 0 none))); refine (HD.out _ ?_).mono ?_; (first | exact (Keeps.refl [] w).drew | assumption); rintro e Wc ⟨rfl, hzc⟩; have hkc := Keeps.trans0 (show Keeps [] w _ by first | exact (Keeps.refl [] w).drew | assumption) hzc; clear hzc))
  all_goals
    go_wp2
    go_ret
    refine ⟨congrArg (fun b => Ending.returned (.string b)) ?_, by assumption⟩
    apply ba_ext
    simp only [ByteArray.data_append, Array.toList_append, bs_data, shown]

theorem rshowA_any (nad : Option Addr) (len cap : Nat) (nm : Nat → Bytes) (t : Ty) (hl : (shown nm t).length ≤ 1000000) : RShowA nad len cap nm t := by
  induction t with
  | var n => exact rshowA_var nad len cap nm n
  | int => exact rshowA_int nad len cap nm
  | bool => exact rshowA_bool nad len cap nm
  | list a ih => exact rshowA_list nad len cap nm a hl (ih (by simp [shown] at hl; omega))
  | pair a b iha ihb => exact rshowA_pair nad len cap nm a b hl (iha (by simp [shown] at hl; omega)) (ihb (by simp [shown] at hl; omega))
  | arr a b iha ihb =>
    have := isArr_shown nm a
    exact rshowA_arr nad len cap nm a b hl (iha (by simp only [shown, List.length_append, List.length_cons, List.length_nil] at hl; omega)) (ihb (by simp only [shown, List.length_append, List.length_cons, List.length_nil] at hl; omega))
end Go.Proofs.YtpbplpnifjbkoaaDoor
