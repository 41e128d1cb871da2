/-
  schemeskeep.lots, despaced: by contracts.
-/
import Derived.Test.YtpbplpnifjbkoabGreatDoorKnp
import Derived.Test.YtpbplpnifjbkoabGreatDoorKinf
import Derived.Test.YtpbplpnifjbkoabGreatDoorPlainShow
import Derived.Test.YtpbplpnifjbkoabGreatDoorRc
import Derived.Test.YtpbplpnifjbkoabGreatDoorNamx
import Derived.Test.YtpbplpnifjbkoabGreatDoorReds
import Derived.Deep.RegionHeld3
namespace Go.Proofs.YtpbplpnifjbkoabGreatDoor
open Go.RowKit

theorem showK {w : World} {s : Bytes} {e : Ending} {w' : World} (h : PlainShowPost w (readExp s) e w') : Keeps [] w w' ∧ e = .returned (.tuple #[.string (bs (showR s).1), faultV (showR s).2.1 (showR s).2.2 ⟨#[]⟩ 0 0]) := by
  refine ⟨h.1, ?_⟩
  rw [h.2]
  unfold showR
  cases readExp s with
  | ok x => rfl
  | error f => rfl
theorem pshowK {a : Nat → Addr} {B : Nat} (w : World) (hG : Gl a B w) (s : Bytes) : Calls Tryz.prog 16 #[.string (bs s)] w fun e w' => Keeps [] w w' ∧ e = .returned (.tuple #[.string (bs (showR s).1), faultV (showR s).2.1 (showR s).2.2 ⟨#[]⟩ 0 0]) := by
  refine (plain_show w hG (bs s)).mono fun e w' h => ?_
  rw [bs_data] at h
  exact showK h
def lotsA : Array Value := (lotsP.flatMap fun x => [.string (bs x.1), .string (bs x.2.1), .string (bs x.2.2.1), .int .i64 x.2.2.2]).toArray
set_option maxRecDepth 100000 in
set_option maxHeartbeats 4000000 in
theorem lots_any (w : World) : Calls Tryz.prog 15 #[] w fun e w' => ∃ b : Nat, e = .returned (.slice (some ⟨b, 0, none⟩) 36 36) ∧ w'.heap[b]? = some (.cells lotsA 50 (0, 0)) ∧ Keeps [] w w' := by
  go_enter Tryz.func15, Tryz.ntmps15
  go_wp2
  go_ret
  exact ⟨w.heap.size, rfl, (block_alloc w _).trans (congrArg (fun c => some (Obj.cells c 50 (0, 0))) (by kernel_rfl)), (Keeps.refl [] w).alloc _⟩

theorem noBlanks_take (s : Bytes) (j : Nat) (h : j < s.length) : noBlanks (s.take (j + 1)) = noBlanks (s.take j) ++ if s[j] = 32 then [] else [s[j]] := by
  rw [List.take_succ_eq_append_getElem h]
  unfold noBlanks
  rw [List.filter_append]
  by_cases e : s[j] = 32
  · simp [e]
  · simp [e]
set_option maxRecDepth 100000 in
set_option maxHeartbeats 4000000 in
theorem despaced_any (s : Bytes) (hs : s.length ≤ 100000) (w : World) : Calls Tryz.prog 18 #[.string (bs s)] w fun e w' => e = .returned (.string (bs (noBlanks s))) ∧ Keeps [] w w' := by
  obtain ⟨T, hT⟩ : ∃ T, T = bs s := ⟨_, rfl⟩
  have hz : T.size = s.length := by rw [hT]; exact bs_size s
  have hd : T.data.toList = s := by rw [hT]; exact bs_data s
  rw [← hT]
  have HT := Lib.hid hT
  clear hT
  go_enter Tryz.func18, Tryz.ntmps18
  go_wp2_with fail
  go_loopg [3, 4] s.length (fun gg t i wx => ∃ j : Nat, gg = s.length - j ∧ i = .int .i64 j ∧ j ≤ s.length ∧ t = .string (bs (noBlanks (s.take j))) ∧ Keeps [] w wx)
  case atStart => exact ⟨0, rfl, rfl, by omega, by simp [noBlanks]; rfl, Keeps.refl _ _⟩
  case round =>
    obtain ⟨j, hg, rfl, hj, rfl, hk⟩ := hrel
    have HG := Lib.hid hg
    have HK := Lib.hid hk
    clear hg hk
    by_cases hlt : j < s.length
    · have hltT : j < T.size := by omega
      have hdl : decide ((j : Int) < (T.size : Int)) = true := by simp; omega
      have hget : s[j] = T[j] := by
        have h := ba_get T j hltT
        rw [← h]
        congr 1
        exact hd.symm
      have hstep := noBlanks_take s j hlt
      have hlen : (noBlanks (s.take j)).length ≤ j := by
        unfold noBlanks
        refine Nat.le_trans (List.length_filter_le _ _) ?_
        simp
        omega
      have HSTEP := Lib.hid hstep
      have hj1 : (j : Int) < (T.size : Int) := by omega
      by_cases h32 : T[j] = 32
      · have e1 : ((T[j].toNat : Int) == 32) = true := by rw [h32]; rfl
        have H32 := Lib.hid (hget.trans h32)
        clear hget h32 hstep
        go_wp2_with fail
        go_roundg (s.length - (j + 1))
        case measure => have := HG.out; omega
        case rel => exact ⟨j + 1, rfl, by go_num, by omega, by rw [HSTEP.out, if_pos H32.out, List.append_nil], HK.out⟩
      · have e1 : ((T[j].toNat : Int) == 32) = false := by
          simp only [beq_eq_false_iff_ne, ne_eq]
          intro h
          apply h32
          apply UInt8.toNat_inj.1
          exact_mod_cast h
        have H32 := Lib.hid (show ¬ s[j] = 32 by rw [hget]; exact h32)
        have hex : T.extract j (j + 1) = bs [s[j]] := by
          have := bs_extract T.data.toList j (j + 1)
          have hj2 : j < T.data.toList.length := by rw [hd]; exact hlt
          rw [bs_of] at this
          rw [this, show j + 1 - j = 1 by omega, List.drop_eq_getElem_cons hj2, List.take_succ_cons, List.take_zero, ba_get T j hltT, ← hget]
        have HEX := Lib.hid hex
        have hsz : (T.extract j (j + 1)).size = 1 := by rw [hex]; rfl
        have s1 : ¬ 9223372036854775807 < (bs (noBlanks (s.take j))).size + (T.extract j (j + 1)).size := by rw [bs_size, hsz]; omega
        clear hget h32 hstep hex
        go_wp2_with fail
        go_roundg (s.length - (j + 1))
        case measure => have := HG.out; omega
        case rel =>
          refine ⟨j + 1, rfl, by go_num, by omega, ?_, HK.out⟩
          rw [HSTEP.out, if_neg H32.out]
          refine congrArg Value.string (ba_ext ?_)
          simp [ByteArray.data_append, Array.toList_append, bs_data, HEX.out]
    · have hdl : decide ((j : Int) < (T.size : Int)) = false := by simp; omega
      obtain rfl : j = s.length := by omega
      go_wp2_with fail
      go_ret
      rw [List.take_of_length_le (Nat.le_refl _)]
      exact ⟨rfl, HK.out⟩
end Go.Proofs.YtpbplpnifjbkoabGreatDoor

namespace Go.Proofs.YtpbplpnifjbkoabGreatDoor
open Go.RowKit

set_option maxRecDepth 100000 in
set_option maxHeartbeats 4000000 in
theorem part_rec [Inhabited Low] [Inhabited Bar] {a : Nat → Addr} {ab : Nat} {M vb : List Nat} {S : Sub} {wst : List Told → World → Prop} {w : World} {gb b : Nat} {ev : Value} {r : Rz}
    (hp : Calls Tryz.prog 142 #[.pointer (some ⟨gb, 0, none⟩), .pointer (some ⟨b, 0, none⟩), ev] w (EPost a ab M wst vb S w r)) :
    Calls Tryz.prog 96 #[.pointer (some ⟨gb, 0, none⟩), ifp 218 b, ev] w (EPost a ab M wst vb S w r) := by
  have t1 := psRecNum b
  have t2 := psRecName b
  have t3 := psRecFun b
  have t4 := psRecApp b
  have t5 := psRecPair b
  have t6 := psRecIf b
  have t7 := psRecLet b
  have t8 := psRec b
  have HC := Lib.hid hp
  clear hp
  go_enter Tryz.func96, Tryz.ntmps96
  go_wp2_with fail
  refine HC.out.mono ?_
  intro e w1 hp
  rcases r with ⟨f, l⟩ | ⟨t, st'⟩
  · obtain ⟨k, hk, rfl, rfl, hk0, hw⟩ := hp
    go_wp2
    exact ⟨rfl, k, hk, rfl, rfl, hk0, hw⟩
  · obtain ⟨v, vb', rfl, hty, hst, he, hw⟩ := hp
    have HT := Lib.hid hty
    have HS := Lib.hid hst
    have HE := Lib.hid he
    have HW := Lib.hid hw
    obtain ⟨vt, vp, rfl⟩ : ∃ vt vp, v = .iface vt vp := by rcases hty.shape with ⟨_, rfl⟩ | ⟨_, rfl⟩ <;> exact ⟨_, _, rfl⟩
    clear hty hst he hw
    go_wp2
    go_ret
    exact ⟨_, vb', rfl, HT.out, HS.out, HE.out, HW.out⟩
section
variable [Inhabited Low] {a : Nat → Addr} {B lo hi gb ab fuel uf : Nat} {Mw : List Nat} {wst : List Told → World → Prop}
theorem of_rec [BI : Inhabited Bar] (R : Rig a B lo hi gb ab Mw wst) (hfu : fuel ≤ 1000000) {p : Nat} {g : Exp} (hwf : wfE true g = true) (hbod : ∀ x ∈ gBodies g, ∀ BJ : Inhabited Bar, @OfOK _ BJ a B lo hi gb ab fuel uf .nilFunc none Mw wst x) (hfor : OfOK a B lo hi gb ab fuel uf .nilFunc none Mw wst (gFor g)) :
    OfOK a B lo hi gb ab fuel uf .nilFunc none Mw wst (.recr p g) := by
  intro env st r hr vb w xv ev I hx
  obtain ⟨_, _, b, ns', vs', sn, sl, vf, hb1, hb2, rfl, hb, hn, hl, hg⟩ := hx
  obtain ⟨hall, hf, rfl⟩ := group_at g hwf _ _ _ hg
  simp only [ofE] at hr
  cases hs : starts (gNames g).length st.S with
  | none => rw [hs] at hr; cases hr
  | some p0 =>
    rw [hs] at hr
    obtain ⟨r0, h0, rfl⟩ := bind_sized' hr
    have e1 : bodiesE uf fuel none g = fun e s => bodiesL uf fuel none (gBodies g) e s := by funext e s; exact bodies_list uf fuel none g e s
    have e2 : forE uf fuel none g = fun e s => ofE uf fuel none (gFor g) e s := by funext e s; exact for_of uf fuel none g hwf e s
    rw [e1, e2] at h0
    exact iof_any I.gl R.bl R.mb R.wat (part_rec (irec_any R hbod hfor hfu hs h0 I hb ⟨hb1, hb2⟩ hn hl hall hf hwf))
theorem of_both (R : Rig a B lo hi gb ab Mw wst) (hfu : fuel ≤ 1000000) (x : Exp) : (wfE false x = true → ∀ BJ : Inhabited Bar, @OfOK _ BJ a B lo hi gb ab fuel uf .nilFunc none Mw wst x) ∧
    (wfE true x = true → (∀ y ∈ gBodies x, ∀ BJ : Inhabited Bar, @OfOK _ BJ a B lo hi gb ab fuel uf .nilFunc none Mw wst y) ∧ ∀ BJ : Inhabited Bar, @OfOK _ BJ a B lo hi gb ab fuel uf .nilFunc none Mw wst (gFor x)) := by
  induction x with
  | name p s => exact ⟨fun _ BJ => @of_name _ BJ _ _ _ _ _ _ _ _ _ _ _ _ R p s, fun h => by simp [wfE] at h⟩
  | num p s => exact ⟨fun _ BJ => @of_num _ BJ _ _ _ _ _ _ _ _ _ _ _ _ R p s, fun h => by simp [wfE] at h⟩
  | lam p n b ih => exact ⟨fun h BJ => @of_lam _ BJ _ _ _ _ _ _ _ _ _ _ _ _ R p n b (ih.1 (by simpa [wfE] using h) BJ), fun h => by simp [wfE] at h⟩
  | app p f g ihf ihg =>
    refine ⟨fun h BJ => ?_, fun h => by simp [wfE] at h⟩
    simp only [wfE, Bool.and_eq_true] at h
    exact @of_app _ BJ _ _ _ _ _ _ _ _ _ _ _ _ R p f g (ihf.1 h.1 BJ) (ihg.1 h.2 BJ)
  | pair p f g ihf ihg =>
    refine ⟨fun h BJ => ?_, fun h => by simp [wfE] at h⟩
    simp only [wfE, Bool.and_eq_true] at h
    exact @of_pair _ BJ _ _ _ _ _ _ _ _ _ _ _ _ R p f g (ihf.1 h.1 BJ) (ihg.1 h.2 BJ)
  | letin p n f g ihf ihg =>
    refine ⟨fun h BJ => ?_, fun h => by simp [wfE] at h⟩
    simp only [wfE, Bool.and_eq_true] at h
    exact @of_let _ BJ _ _ _ _ _ _ _ _ _ _ _ _ R p n f g (ihf.1 h.1 BJ) (ihg.1 h.2 BJ)
  | cond p c f g ihc ihf ihg =>
    refine ⟨fun h BJ => ?_, fun h => by simp [wfE] at h⟩
    simp only [wfE, Bool.and_eq_true] at h
    exact @of_cond _ BJ _ _ _ _ _ _ _ _ _ _ _ _ R p c f g (ihc.1 h.1.1 BJ) (ihf.1 h.1.2 BJ) (ihg.1 h.2 BJ)
  | recr p g ih =>
    refine ⟨fun h BJ => ?_, fun h => by simp [wfE] at h⟩
    simp only [wfE, Bool.and_eq_true] at h
    exact @of_rec _ _ _ _ _ _ _ _ _ _ _ BJ R hfu p g h.2 (ih.2 h.2).1 ((ih.2 h.2).2 BJ)
  | bnd n b g ihb ihg =>
    refine ⟨fun h => by simp [wfE] at h, fun h => ?_⟩
    simp only [wfE, Bool.and_eq_true] at h
    refine ⟨fun y hy => ?_, (ihg.2 h.2).2⟩
    rcases List.mem_cons.1 hy with rfl | hy
    · exact ihb.1 h.1
    · exact (ihg.2 h.2).1 y hy
  | fin b ih => exact ⟨fun h => by simp [wfE] at h, fun h => ⟨fun y hy => by simp [gBodies] at hy, ih.1 (by simpa [wfE] using h)⟩⟩
end
end Go.Proofs.YtpbplpnifjbkoabGreatDoor

namespace Go.Proofs.YtpbplpnifjbkoabGreatDoor
open Go.RowKit

theorem readExp_wf {s : Bytes} {x : Exp} (h : readExp s = .ok x) : wfE false x = true := by
  by_cases hs : 300 < s.length
  · unfold readExp at h
    rw [if_pos hs] at h
    cases h
  · obtain ⟨res, h1, h2⟩ := readExp_spec s (by omega)
    rw [readExp_eq hs h1] at h
    rcases res with p | ⟨y, ts⟩
    · cases h
    · simp only [finE] at h
      split at h
      · split at h
        · cases h
        · cases h
          exact (h2 _ _ rfl).2.1
      · cases h
theorem hof_all {src : Bytes} {fuel : Nat} (hfu : fuel ≤ 1000000) {a : Nat → Addr} {B : Nat} : ∀ x, readExp src = .ok x → ∀ (L : Inhabited Low) (Br : Inhabited Bar) (lo hi gb ab : Nat), @Rig L a B lo hi gb ab [] (fun _ _ => True) → @OfOK L Br a B lo hi gb ab fuel 400 .nilFunc none [] (fun _ _ => True) x :=
  fun x hx L Br lo hi gb ab R => (@of_both L a B lo hi gb ab fuel 400 [] (fun _ _ => True) R hfu x).1 (readExp_wf hx) Br

theorem flat4 {α : Type} (f : α → List Value) (hf : ∀ x, (f x).length = 4) : ∀ (l : List α) (n : Nat) (x : α), l[n]? = some x → ∀ k, k < 4 → (l.flatMap f)[n * 4 + k]? = (f x)[k]?
  | [], n, x, h, _, _ => by simp at h
  | a :: r, 0, x, h, k, hk => by
    simp at h
    subst h
    simp only [List.flatMap_cons, Nat.zero_mul, Nat.zero_add]
    rw [List.getElem?_append_left (by rw [hf]; exact hk)]
  | a :: r, n + 1, x, h, k, hk => by
    simp at h
    simp only [List.flatMap_cons]
    rw [List.getElem?_append_right (by rw [hf]; omega), hf, show (n + 1) * 4 + k - 4 = n * 4 + k by omega]
    exact flat4 f hf r n x h k hk
theorem lots_at {n : Nat} {x : Bytes × Bytes × Bytes × Nat} (h : lotsP[n]? = some x) : lotsA[n * 4]? = some (.string (bs x.1)) ∧ lotsA[n * 4 + 1]? = some (.string (bs x.2.1)) ∧ lotsA[n * 4 + 2]? = some (.string (bs x.2.2.1)) ∧ lotsA[n * 4 + 3]? = some (.int .i64 x.2.2.2) := by
  have hh := flat4 (fun x : Bytes × Bytes × Bytes × Nat => [Value.string (bs x.1), .string (bs x.2.1), .string (bs x.2.2.1), .int .i64 x.2.2.2]) (fun _ => rfl) lotsP n x h
  unfold lotsA
  refine ⟨?_, ?_, ?_, ?_⟩ <;> rw [List.getElem?_toArray]
  · exact hh 0 (by omega)
  · exact hh 1 (by omega)
  · exact hh 2 (by omega)
  · exact hh 3 (by omega)
theorem known_small : (lotsP.all fun x => decide (x.2.2.2 = 0 ∨ x.2.2.2 = 7 ∨ x.2.2.2 = 8 ∨ x.2.2.2 = 9) && decide (x.2.2.1.length ≤ 1000) && decide (x.2.1.length ≤ 1000) && decide (x.1.length ≤ 1000) && match ansP x.1 with
  | some p => decide (p.1.length ≤ 1000)
  | none => false) = true := by decide +kernel

/-- What is asked of an answer. -/
def KnCond (x : Bytes × Bytes × Bytes × Nat) (t : Bytes) (f : FaultR) : Prop :=
  (x.2.2.2 ≠ 0 ∧ t = [] ∧ f.what = x.2.2.2) ∨ (x.2.2.2 = 0 ∧ x.2.2.1 = [] ∧ t = [] ∧ f.what = 4 ∧ f.at_ < x.2.1.length ∧ f.s = (x.2.1.drop f.at_).take 1 ∧ (f.at_ = 0 ↔ x.2.1.length = 1)) ∨
  (x.2.2.2 = 0 ∧ x.2.2.1 ≠ [] ∧ f.what = 0 ∧ noBlanks t = noBlanks x.2.2.1)
theorem known_case {a : Nat → Addr} {B : Nat} {x : Bytes × Bytes × Bytes × Nat} (hx : x ∈ lotsP) : ∃ t f, showR x.1 = (x.2.1, 0, 0) ∧ KInf a B x.1 t f ∧ t.length ≤ 1000 ∧ x.2.2.1.length ≤ 1000 ∧ x.2.1.length ≤ 1000 ∧ KnCond x t f := by
  have h1 := List.all_eq_true.1 known_all x hx
  have h2 := List.all_eq_true.1 known_small x hx
  unfold knownB at h1
  simp only [Bool.and_eq_true, decide_eq_true_eq] at h1 h2
  obtain ⟨hs, ha⟩ := h1
  obtain ⟨⟨⟨⟨hw, hl1⟩, hl2⟩, _⟩, hl3⟩ := h2
  have hsr : showR x.1 = (x.2.1, 0, 0) := by
    unfold showP at hs
    unfold showR
    cases hr : readExp x.1 with
    | error f => rw [hr] at hs; cases hs
    | ok e =>
      rw [hr] at hs
      simp only [Option.some.injEq] at hs
      rw [← hs]
  cases hans : ansP x.1 with
  | none => rw [hans] at ha; cases ha
  | some p =>
    obtain ⟨t, f⟩ := p
    rw [hans] at ha hl3
    simp only [decide_eq_true_eq] at ha hl3
    unfold ansP at hans
    obtain ⟨r, hr, hrt⟩ := Option.map_eq_some_iff.1 hans
    simp only [Prod.mk.injEq] at hrt
    obtain ⟨rfl, rfl⟩ := hrt
    have hcond : KnCond x r.1 r.2.1 ∧ ((r.2.1.what ≠ 4 ∧ r.2.1.what ≠ 5) ∨ r.2.1.s ≠ []) := by
      by_cases hq : x.2.2.2 ≠ 0
      · rw [if_pos hq] at ha
        simp only [decide_eq_true_eq] at ha
        obtain ⟨e1, e2⟩ := ha
        exact ⟨.inl ⟨hq, e1, by rw [e2]⟩, .inl (by rw [e2]; simp only; omega)⟩
      · rw [if_neg hq] at ha
        have hq0 : x.2.2.2 = 0 := by omega
        by_cases ht : x.2.2.1 = []
        · rw [if_pos ht] at ha
          simp only [decide_eq_true_eq] at ha
          obtain ⟨e1, e2, e3, e4, e5⟩ := ha
          refine ⟨.inr (.inl ⟨hq0, ht, e1, e2, e3, e4, e5⟩), .inr ?_⟩
          rw [e4]
          intro h
          have := congrArg List.length h
          simp at this
          omega
        · rw [if_neg ht] at ha
          simp only [decide_eq_true_eq] at ha
          obtain ⟨e1, e2⟩ := ha
          exact ⟨.inr (.inr ⟨hq0, ht, by rw [e1], e2⟩), .inl (by rw [e1]; simp)⟩
    exact ⟨r.1, r.2.1, hsr, kinf_any (hof_all (by omega)) hcond.2 hr, hl3, hl1, hl2, hcond.1⟩

set_option maxRecDepth 100000 in
set_option maxHeartbeats 8000000 in
theorem known_law {a : Nat → Addr} {B : Nat} (c : Int) (hc : -9223372036854775808 ≤ c ∧ c ≤ 9223372036854775807) (w : World) (hG : Gl a B w) :
    Calls Tryz.prog 6 #[.int .i64 c] w fun e w' => e = .returned (.bool true) ∧ Keeps [] w w' := by
  have HG := Lib.hid hG
  clear hG
  go_enter Tryz.func6, Tryz.ntmps6
  go_wp2_with fail
  refine (lots_any w).mono ?_
  rintro e w1 ⟨b, rfl, hb, hk1⟩
  have HB := Lib.hid hb
  have HK1 := Lib.hid hk1
  clear hk1 hb
  go_wp2_with fail
  refine (pick_any c hc 36 (by omega) (by omega) w1).mono ?_
  rintro e w2 ⟨rfl, rfl⟩
  have hn := pickK_lt c 36 (by omega)
  generalize pickK c 36 = n at hn ⊢
  obtain ⟨x, hx⟩ : ∃ x, lotsP[n]? = some x := ⟨_, List.getElem?_eq_getElem (by simpa [lotsP] using hn)⟩
  obtain ⟨t, f, hsr, hki, hl1, hl2, hl3, hcd⟩ := known_case (a := a) (B := B) (List.mem_of_getElem? hx)
  obtain ⟨a0, a1, a2, a3⟩ := lots_at hx
  have c0 := (cell_of_block HB.out (n * 4)).trans a0
  have c1 := (cell_of_block HB.out (n * 4 + 1)).trans a1
  have c2 := (cell_of_block HB.out (n * 4 + 2)).trans a2
  have c3 := (cell_of_block HB.out (n * 4 + 3)).trans a3
  obtain ⟨src, tx, ty, wh⟩ := x
  simp only at c0 c1 c2 c3 hsr hki hl2 hl3
  have hn1 : (n : Int) < 36 := by omega
  have HSR := Lib.hid hsr
  have HKI := Lib.hid hki
  have HCD := Lib.hid hcd
  clear hsr hki hcd hx a0 a1 a2 a3
  go_wp2_with fail
  have hk2 := HK1.out.alloc (.cells #[.string (bs src), .string (bs tx), .string (bs ty), .int .i64 wh] 50)
  have HB2 := Lib.hid (block_alloc w1 (.cells #[.string (bs src), .string (bs tx), .string (bs ty), .int .i64 wh] 50))
  have HK2 := Lib.hid hk2
  clear c0 c1 c2 c3 hn1 hk2
  refine (pshowK _ (HG.out.keeps HK2.out (by simp)) src).mono ?_
  rintro e w3 ⟨hk3, rfl⟩
  rw [HSR.out]
  have hb3 := hk3.some HB2.out (by simp)
  have HK3 := Lib.hid (HK2.out.trans0 hk3)
  have x0 := cell_of_block (block_alloc_old (o' := .cells #[.int .i64 0, .int .i64 0, .string ⟨#[]⟩, .int .i64 0, .int .i64 0] 26) hb3) 0
  simp only [List.getElem?_toArray, List.getElem?_cons_zero] at x0
  have HB3 := Lib.hid hb3
  clear hk3 hb3
  go_wp2_with fail
  refine (HKI.out _ (HG.out.keeps (HK3.out.alloc _) (by simp))).mono ?_
  rintro e w5 ⟨rfl, hk5⟩
  have hb5 := hk5.some (block_alloc_old HB3.out) (by simp)
  have hf5 := hk5.some (block_alloc w3 (.cells #[.int .i64 0, .int .i64 0, .string ⟨#[]⟩, .int .i64 0, .int .i64 0] 26)) (by simp)
  have HK5 := Lib.hid ((HK3.out.alloc _).trans0 hk5)
  have HKF := Lib.hid (HK5.out.alloc (.cells #[.int .i64 f.what, .int .i64 f.at_, .string (bs f.s), .int .i64 f.inner, .int .i64 f.innerAt] 26))
  have e0 := cell_of_block (block_alloc_old (o' := .cells #[.int .i64 f.what, .int .i64 f.at_, .string (bs f.s), .int .i64 f.inner, .int .i64 f.innerAt] 26) hf5) 0
  have x1 := cell_of_block (block_alloc_old (o' := .cells #[.int .i64 f.what, .int .i64 f.at_, .string (bs f.s), .int .i64 f.inner, .int .i64 f.innerAt] 26) hb5) 1
  have x2 := cell_of_block (block_alloc_old (o' := .cells #[.int .i64 f.what, .int .i64 f.at_, .string (bs f.s), .int .i64 f.inner, .int .i64 f.innerAt] 26) hb5) 2
  have x3 := cell_of_block (block_alloc_old (o' := .cells #[.int .i64 f.what, .int .i64 f.at_, .string (bs f.s), .int .i64 f.inner, .int .i64 f.innerAt] 26) hb5) 3
  have g0 := cell_of_block (block_alloc w5 (.cells #[.int .i64 f.what, .int .i64 f.at_, .string (bs f.s), .int .i64 f.inner, .int .i64 f.innerAt] 26)) 0
  have g1 := cell_of_block (block_alloc w5 (.cells #[.int .i64 f.what, .int .i64 f.at_, .string (bs f.s), .int .i64 f.inner, .int .i64 f.innerAt] 26)) 1
  have g2 := cell_of_block (block_alloc w5 (.cells #[.int .i64 f.what, .int .i64 f.at_, .string (bs f.s), .int .i64 f.inner, .int .i64 f.innerAt] 26)) 2
  simp only [List.getElem?_toArray, List.getElem?_cons_succ, List.getElem?_cons_zero] at e0 x1 x2 x3 g0 g1 g2
  have HB5 := Lib.hid hb5
  clear hk5 hb5 hf5 x0
  obtain ⟨fw, fa, fs, fi, fia⟩ := f
  simp only at e0 x1 x2 x3 g0 g1 g2 HKF
  have hcd := HCD.out
  have qt : ((bs t).toList == []) = decide (t = []) := by rw [ByteArray.toList_eq, bs_data]; exact Bool.eq_iff_iff.2 (by simp)
  have qy : ((bs ty).toList == []) = decide (ty = []) := by rw [ByteArray.toList_eq, bs_data]; exact Bool.eq_iff_iff.2 (by simp)
  have qx : ((bs tx).toList == (bs tx).toList) = true := beq_self_eq_true _
  obtain ⟨T, hT⟩ : ∃ T, T = bs tx := ⟨_, rfl⟩
  have hz : T.size = tx.length := by rw [hT]; exact bs_size tx
  have hdt : T.data.toList = tx := by rw [hT]; exact bs_data tx
  rw [← hT] at x1 qx
  rw [← hT]
  clear hT HB2 HB3 HB5 HKI HSR
  rcases hcd with ⟨h1, h2, h3⟩ | ⟨h1, h2, h3, h4, h5, h6, h7⟩ | ⟨h1, h2, h3, h4⟩
  · simp only at h1 h2 h3
    have d1 : decide ((wh : Int) = 0) = false := by simp; exact h1
    have d2 : ((wh : Int) == 0) = false := by simp; exact h1
    have d3 : decide ((fw : Int) = (wh : Int)) = true := by simp [h3]
    have d4 : ((fw : Int) == (wh : Int)) = true := by simp [h3]
    have q1 : decide (t = []) = true := by simpa using h2
    rw [q1] at qt
    clear h1 h2 h3 HCD q1
    go_wp2
    go_ret
    exact ⟨rfl, HKF.out⟩
  · simp only at h1 h2 h3 h4 h5 h6 h7
    have d1 : decide ((wh : Int) = 0) = true := by simp [h1]
    have d2 : ((wh : Int) == 0) = true := by simp [h1]
    have d3 : decide ((fw : Int) = 4) = true := by simp [h4]
    have d4 : ((fw : Int) == 4) = true := by simp [h4]
    have q1 : decide (t = []) = true := by simpa using h3
    have q2 : decide (ty = []) = true := by simpa using h2
    rw [q1] at qt
    rw [q2] at qy
    have d5 : decide ((fa : Int) ≥ 0) = true := by simp
    have d6 : decide ((fa : Int) < (T.size : Int)) = true := by simp; omega
    have d6a : fa < T.size := by omega
    have d6b : decide (fa < T.size) = true := by simp; omega
    have d7 : (0 : Int) ≤ (fa : Int) := by omega
    have d8 : (fa : Int) + 1 ≤ (T.size : Int) := by omega
    have hfa : fa ≤ 1000 := by omega
    have hwr : IntKind.i64.wrap ((fa : Int) + 1) = (fa : Int) + 1 := IntWalk.i64_in _ (by omega)
    have htn : ((fa : Int) + 1).toNat = fa + 1 := by omega
    have d9 : (0 : Int) ≤ (fa : Int) + 1 := by omega
    have d10 : (fa : Int) ≤ (fa : Int) + 1 := by omega
    have hex : T.extract fa (fa + 1) = bs fs := by
      have := bs_extract T.data.toList fa (fa + 1)
      rw [bs_of] at this
      rw [this, hdt, show fa + 1 - fa = 1 by omega, ← h6]
    have hexq : ((bs fs).toList == (T.extract fa (fa + 1)).toList) = true := by rw [hex]; exact beq_self_eq_true _
    have HEX := Lib.hid hex
    have hfin : ∃ b : Bool, decide ((fa : Int) = 0) = b ∧ ((fa : Int) == 0) = b ∧ decide ((T.size : Int) = 1) = b ∧ ((T.size : Int) == 1) = b ∧ decide (fa = 0) = b ∧ decide (T.size = 1) = b := by
      by_cases h0 : fa = 0
      · have h10 := h7.1 h0
        exact ⟨true, by simp [h0], by simp [h0], by simp; omega, by simp; omega, by simp [h0], by simp; omega⟩
      · have h10 : ¬ tx.length = 1 := fun e => h0 (h7.2 e)
        exact ⟨false, by simp [h0], by simp [h0], by simp; omega, by simp; omega, by simp [h0], by simp; omega⟩
    obtain ⟨bb, f1, f2, f3, f4, f5, f6⟩ := hfin
    clear h1 h2 h3 h4 h5 h6 h7 HCD q1 q2 hex hz hdt
    go_wp2_with fail
    refine wp_region_held_drew (S := (fun W => W.cell? ⟨w5.heap.size, 0, none⟩ = some (.int .i64 fw) ∧ W.cell? ⟨w5.heap.size, 1, none⟩ = some (.int .i64 fa) ∧ W.cell? ⟨w5.heap.size, 2, none⟩ = some (.string (bs fs)))) (by kernel_rfl) ?_ (fun hHeld => ?_)
    · exact ⟨g0, g1, g2⟩
    refine wpAnyH_take (i := 0) (by simp only [qgA, qgC]; rfl) (by kernel_rfl) (by kernel_rfl) (by kernel_rfl) (by exact fun _ _ _ h => h) (Or.inl ⟨by rfl, by intro w hSw; (try dsimp only at hSw); first | (go_simp; done) | (go_simp; with_reducible rfl)⟩) (by assumption) ?_
    try simp only [Act.put, qsA, qsB, qsC]
    refine wpAnyH_take (i := 1) (by simp only [qgA, qgB, qgC]; rfl) (by kernel_rfl) (by kernel_rfl) (by kernel_rfl) (by exact fun _ _ _ h => h) (Or.inl ⟨by rfl, by intro w hSw; (try dsimp only at hSw); first | (go_simp; done) | (go_simp; with_reducible rfl)⟩) (by assumption) ?_
    try simp only [Act.put, qsA, qsB, qsC]
    refine wpAnyH_take (i := 2) (by simp only [qgA, qgB, qgC]; rfl) (by kernel_rfl) (by kernel_rfl) (by kernel_rfl) (by exact fun _ _ _ h => h) (Or.inl ⟨by rfl, by intro w hSw; (try dsimp only at hSw); first | (go_simp; done) | (go_simp; with_reducible rfl)⟩) (by assumption) ?_
    try simp only [Act.put, qsA, qsB, qsC]
    refine wpAnyH_take (i := 3) (by simp only [qgA, qgB, qgC]; rfl) (by kernel_rfl) (by kernel_rfl) (by kernel_rfl) (by exact fun _ _ _ h => h) (Or.inl ⟨by rfl, by intro w hSw; (try dsimp only at hSw); first | (go_simp; done) | (go_simp; with_reducible rfl)⟩) (by assumption) ?_
    try simp only [Act.put, qsA, qsB, qsC]
    refine wpAnyH_take (i := 4) (by simp only [qgA, qgB, qgC]; rfl) (by kernel_rfl) (by kernel_rfl) (by kernel_rfl) (by exact fun _ _ _ h => h) (Or.inl ⟨by rfl, by intro w hSw; (try dsimp only at hSw); first | (go_simp; done) | (go_simp; with_reducible rfl)⟩) (by assumption) ?_
    try simp only [Act.put, qsA, qsB, qsC]
    refine wpAnyH_take (i := 5) (by simp only [qgA, qgB, qgC]; rfl) (by kernel_rfl) (by kernel_rfl) (by kernel_rfl) (by exact fun _ _ _ h => h) (Or.inl ⟨by rfl, by intro w hSw; (try dsimp only at hSw); first | (go_simp; done) | (go_simp; with_reducible rfl)⟩) (by assumption) ?_
    try simp only [Act.put, qsA, qsB, qsC]
    refine wpAnyH_take (i := 6) (by simp only [qgA, qgB, qgC]; rfl) (by kernel_rfl) (by kernel_rfl) (by kernel_rfl) (by exact fun _ _ _ h => h) (Or.inl ⟨by rfl, by intro w hSw; (try dsimp only at hSw); first | (go_simp; done) | (go_simp; with_reducible rfl)⟩) (by assumption) ?_
    try simp only [Act.put, qsA, qsB, qsC]
    refine wpAnyH_take (i := 7) (by simp only [qgA, qgB, qgC]; rfl) (by kernel_rfl) (by kernel_rfl) (by kernel_rfl) (by exact fun _ _ _ h => h) (Or.inl ⟨by rfl, by intro w hSw; (try dsimp only at hSw); first | (go_simp; done) | (go_simp; with_reducible rfl)⟩) (by assumption) ?_
    try simp only [Act.put, qsA, qsB, qsC]
    refine wpAnyH_take (i := 8) (by simp only [qgA, qgB, qgC]; rfl) (by kernel_rfl) (by kernel_rfl) (by kernel_rfl) (by exact fun _ _ _ h => h) (Or.inl ⟨by rfl, by intro w hSw; (try dsimp only at hSw); first | (go_simp; done) | (go_simp; with_reducible rfl)⟩) (by assumption) ?_
    try simp only [Act.put, qsA, qsB, qsC]
    refine wpAnyH_take (i := 9) (by simp only [qgA, qgB, qgC]; rfl) (by kernel_rfl) (by kernel_rfl) (by kernel_rfl) (by exact fun _ _ _ h => h) (Or.inl ⟨by rfl, by intro w hSw; (try dsimp only at hSw); first | (go_simp; done) | (go_simp; with_reducible rfl)⟩) (by assumption) ?_
    try simp only [Act.put, qsA, qsB, qsC]
    refine wpAnyH_take (i := 10) (by simp only [qgA, qgB, qgC]; rfl) (by kernel_rfl) (by kernel_rfl) (by kernel_rfl) (by exact fun _ _ _ h => h) (Or.inl ⟨by rfl, by intro w hSw; (try dsimp only at hSw); first | (go_simp; done) | (go_simp; with_reducible rfl)⟩) (by assumption) ?_
    try simp only [Act.put, qsA, qsB, qsC]
    refine wpAnyH_take (i := 11) (by simp only [qgA, qgB, qgC]; rfl) (by kernel_rfl) (by kernel_rfl) (by kernel_rfl) (by exact fun _ _ _ h => h) (Or.inl ⟨by rfl, by intro w hSw; (try dsimp only at hSw); first | (go_simp; done) | (go_simp; with_reducible rfl)⟩) (by assumption) ?_
    try simp only [Act.put, qsA, qsB, qsC]
    refine wpAnyH_take (i := 12) (by simp only [qgA, qgB, qgC]; rfl) (by kernel_rfl) (by kernel_rfl) (by kernel_rfl) (by exact fun _ _ _ h => h) (Or.inl ⟨by rfl, by intro w hSw; (try dsimp only at hSw); first | (go_simp; done) | (go_simp; with_reducible rfl)⟩) (by assumption) ?_
    try simp only [Act.put, qsA, qsB, qsC]
    refine wpAnyH_take (i := 13) (by simp only [qgA, qgB, qgC]; rfl) (by kernel_rfl) (by kernel_rfl) (by kernel_rfl) (by exact fun _ _ _ h => h) (Or.inl ⟨by rfl, by intro w hSw; (try dsimp only at hSw); first | (go_simp; done) | (go_simp; with_reducible rfl)⟩) (by assumption) ?_
    try simp only [Act.put, qsA, qsB, qsC]
    refine wpAnyH_take (i := 14) (by simp only [qgA, qgB, qgC]; rfl) (by kernel_rfl) (by kernel_rfl) (by kernel_rfl) (by exact fun _ _ _ h => h) (Or.inl ⟨by rfl, by intro w hSw; (try dsimp only at hSw); first | (go_simp; done) | (go_simp; with_reducible rfl)⟩) (by assumption) ?_
    try simp only [Act.put, qsA, qsB, qsC]
    refine wpAnyH_take (i := 15) (by simp only [qgA, qgB, qgC]; rfl) (by kernel_rfl) (by kernel_rfl) (by kernel_rfl) (by exact fun _ _ _ h => h) (Or.inl ⟨by rfl, by intro w hSw; (try dsimp only at hSw); first | (go_simp; done) | (go_simp; with_reducible rfl)⟩) (by assumption) ?_
    try simp only [Act.put, qsA, qsB, qsC]
    refine wpAnyH_take (i := 16) (by simp only [qgA, qgB, qgC]; rfl) (by kernel_rfl) (by kernel_rfl) (by kernel_rfl) (by exact fun _ _ _ h => h) (Or.inl ⟨by rfl, by intro w hSw; (try dsimp only at hSw); first | (go_simp; done) | (go_simp; with_reducible rfl)⟩) (by assumption) ?_
    try simp only [Act.put, qsA, qsB, qsC]
    refine wpAnyH_take (i := 17) (by simp only [qgA, qgB, qgC]; rfl) (by kernel_rfl) (by kernel_rfl) (by kernel_rfl) (by exact fun _ _ _ h => h) (Or.inl ⟨by rfl, by intro w hSw; (try dsimp only at hSw); first | (go_simp; done) | (go_simp; with_reducible rfl)⟩) (by assumption) ?_
    try simp only [Act.put, qsA, qsB, qsC]
    refine wpAnyH_take (i := 18) (by simp only [qgA, qgB, qgC]; rfl) (by kernel_rfl) (by kernel_rfl) (by kernel_rfl) (by exact fun _ _ _ h => h) (Or.inl ⟨by rfl, by intro w hSw; (try dsimp only at hSw); first | (go_simp; done) | (go_simp; with_reducible rfl)⟩) (by assumption) ?_
    try simp only [Act.put, qsA, qsB, qsC]
    refine wpAnyH_take (i := 19) (by simp only [qgA, qgB, qgC]; rfl) (by kernel_rfl) (by kernel_rfl) (by kernel_rfl) (by exact fun _ _ _ h => h) (Or.inl ⟨by rfl, by intro w hSw; (try dsimp only at hSw); first | (go_simp; done) | (go_simp; with_reducible rfl)⟩) (by assumption) ?_
    try simp only [Act.put, qsA, qsB, qsC]
    refine wpAnyH_take (i := 20) (by simp only [qgA, qgB, qgC]; rfl) (by kernel_rfl) (by kernel_rfl) (by kernel_rfl) (by exact fun _ _ _ h => h) (Or.inl ⟨by rfl, by intro w hSw; (try dsimp only at hSw); first | (go_simp; done) | (go_simp; with_reducible rfl)⟩) (by assumption) ?_
    try simp only [Act.put, qsA, qsB, qsC]
    refine wpAnyH_take (i := 21) (by simp only [qgA, qgB, qgC]; rfl) (by kernel_rfl) (by kernel_rfl) (by kernel_rfl) (by exact fun _ _ _ h => h) (Or.inl ⟨by rfl, by intro w hSw; (try dsimp only at hSw); first | (go_simp; done) | (go_simp; with_reducible rfl)⟩) (by assumption) ?_
    try simp only [Act.put, qsA, qsB, qsC]
    refine wpAnyH_take (i := 22) (by simp only [qgA, qgB, qgC]; rfl) (by kernel_rfl) (by kernel_rfl) (by kernel_rfl) (by exact fun _ _ _ h => h) (Or.inl ⟨by rfl, by intro w hSw; (try dsimp only at hSw); first | (go_simp; done) | (go_simp; with_reducible rfl)⟩) (by assumption) ?_
    try simp only [Act.put, qsA, qsB, qsC]
    refine wpAnyH_take (i := 23) (by simp only [qgA, qgB, qgC]; rfl) (by kernel_rfl) (by kernel_rfl) (by kernel_rfl) (by exact fun _ _ _ h => h) (Or.inl ⟨by rfl, by intro w hSw; (try dsimp only at hSw); first | (go_simp; done) | (go_simp; with_reducible rfl)⟩) (by assumption) ?_
    try simp only [Act.put, qsA, qsB, qsC]
    refine wpAnyH_take (i := 24) (by simp only [qgA, qgB, qgC]; rfl) (by kernel_rfl) (by kernel_rfl) (by kernel_rfl) (by exact fun _ _ _ h => h) (Or.inl ⟨by rfl, by intro w hSw; (try dsimp only at hSw); first | (go_simp; done) | (go_simp; with_reducible rfl)⟩) (by assumption) ?_
    try simp only [Act.put, qsA, qsB, qsC]
    refine wpAnyH_take (i := 25) (by simp only [qgA, qgB, qgC]; rfl) (by kernel_rfl) (by kernel_rfl) (by kernel_rfl) (by exact fun _ _ _ h => h) (Or.inl ⟨by rfl, by intro w hSw; (try dsimp only at hSw); first | (go_simp; done) | (go_simp; with_reducible rfl)⟩) (by assumption) ?_
    try simp only [Act.put, qsA, qsB, qsC]
    refine wpAnyH_take (i := 26) (by simp only [qgA, qgB, qgC]; rfl) (by kernel_rfl) (by kernel_rfl) (by kernel_rfl) (by exact fun _ _ _ h => h) (Or.inl ⟨by rfl, by intro w hSw; (try dsimp only at hSw); first | (go_simp; done) | (go_simp; with_reducible rfl)⟩) (by assumption) ?_
    try simp only [Act.put, qsA, qsB, qsC]
    refine wpAnyH_take (i := 27) (by simp only [qgA, qgB, qgC]; rfl) (by kernel_rfl) (by kernel_rfl) (by kernel_rfl) (by exact fun _ _ _ h => h) (Or.inl ⟨by rfl, by intro w hSw; (try dsimp only at hSw); first | (go_simp; done) | (go_simp; with_reducible rfl)⟩) (by assumption) ?_
    try simp only [Act.put, qsA, qsB, qsC]
    refine wpAnyH_take (i := 28) (by simp only [qgA, qgB, qgC]; rfl) (by kernel_rfl) (by kernel_rfl) (by kernel_rfl) (by exact fun _ _ _ h => h) (Or.inl ⟨by rfl, by intro w hSw; (try dsimp only at hSw); first | (go_simp; done) | (go_simp; with_reducible rfl)⟩) (by assumption) ?_
    try simp only [Act.put, qsA, qsB, qsC]
    refine wpAnyH_take (i := 29) (by simp only [qgA, qgB, qgC]; rfl) (by kernel_rfl) (by kernel_rfl) (by kernel_rfl) (by exact fun _ _ _ h => h) (Or.inl ⟨by rfl, by intro w hSw; (try dsimp only at hSw); first | (go_simp; done) | (go_simp; with_reducible rfl)⟩) (by assumption) ?_
    try simp only [Act.put, qsA, qsB, qsC]
    refine wpAnyH_take (i := 30) (by simp only [qgA, qgB, qgC]; rfl) (by kernel_rfl) (by kernel_rfl) (by kernel_rfl) (by exact fun _ _ _ h => h) (Or.inl ⟨by rfl, by intro w hSw; (try dsimp only at hSw); first | (go_simp; done) | (go_simp; with_reducible rfl)⟩) (by assumption) ?_
    try simp only [Act.put, qsA, qsB, qsC]
    refine wpAnyH_take (i := 31) (by simp only [qgA, qgB, qgC]; rfl) (by kernel_rfl) (by kernel_rfl) (by kernel_rfl) (by exact fun _ _ _ h => h) (Or.inl ⟨by rfl, by intro w hSw; (try dsimp only at hSw); first | (go_simp; done) | (go_simp; with_reducible rfl)⟩) (by assumption) ?_
    try simp only [Act.put, qsA, qsB, qsC]
    refine wpAnyH_take (i := 32) (by simp only [qgA, qgB, qgC]; rfl) (by kernel_rfl) (by kernel_rfl) (by kernel_rfl) (by exact fun _ _ _ h => h) (Or.inl ⟨by rfl, by intro w hSw; (try dsimp only at hSw); first | (go_simp; done) | (go_simp; with_reducible rfl)⟩) (by assumption) ?_
    try simp only [Act.put, qsA, qsB, qsC]
    refine wpAnyH_take (i := 33) (by simp only [qgA, qgB, qgC]; rfl) (by kernel_rfl) (by kernel_rfl) (by kernel_rfl) (by exact fun _ _ _ h => h) (Or.inl ⟨by rfl, by intro w hSw; (try dsimp only at hSw); first | (go_simp; done) | (go_simp; with_reducible rfl)⟩) (by assumption) ?_
    try simp only [Act.put, qsA, qsB, qsC]
    refine wpAnyH_take (i := 34) (by simp only [qgA, qgB, qgC]; rfl) (by kernel_rfl) (by kernel_rfl) (by kernel_rfl) (by exact fun _ _ _ h => h) (Or.inl ⟨by rfl, by intro w hSw; (try dsimp only at hSw); first | (go_simp; done) | (go_simp; with_reducible rfl)⟩) (by assumption) ?_
    try simp only [Act.put, qsA, qsB, qsC]
    refine wpAnyH_take (i := 35) (by simp only [qgA, qgB, qgC]; rfl) (by kernel_rfl) (by kernel_rfl) (by kernel_rfl) (by exact fun _ _ _ h => h) (Or.inl ⟨by rfl, by intro w hSw; (try dsimp only at hSw); first | (go_simp; done) | (go_simp; with_reducible rfl)⟩) (by assumption) ?_
    try simp only [Act.put, qsA, qsB, qsC]
    refine wpAnyH_take (i := 36) (by simp only [qgA, qgB, qgC]; rfl) (by kernel_rfl) (by kernel_rfl) (by kernel_rfl) (by exact fun _ _ _ h => h) (Or.inl ⟨by rfl, by intro w hSw; (try dsimp only at hSw); first | (go_simp; done) | (go_simp; with_reducible rfl)⟩) (by assumption) ?_
    try simp only [Act.put, qsA, qsB, qsC]
    refine wpAnyH_take (i := 37) (by simp only [qgA, qgB, qgC]; rfl) (by kernel_rfl) (by kernel_rfl) (by kernel_rfl) (by exact fun _ _ _ h => h) (Or.inl ⟨by rfl, by intro w hSw; (try dsimp only at hSw); first | (go_simp; done) | (go_simp; with_reducible rfl)⟩) (by assumption) ?_
    try simp only [Act.put, qsA, qsB, qsC]
    refine wpAnyH_take (i := 38) (by simp only [qgA, qgB, qgC]; rfl) (by kernel_rfl) (by kernel_rfl) (by kernel_rfl) (by exact fun _ _ _ h => h) (Or.inl ⟨by rfl, by intro w hSw; (try dsimp only at hSw); first | (go_simp; done) | (go_simp; with_reducible rfl)⟩) (by assumption) ?_
    try simp only [Act.put, qsA, qsB, qsC]
    refine wpAnyH_take (i := 39) (by simp only [qgA, qgB, qgC]; rfl) (by kernel_rfl) (by kernel_rfl) (by kernel_rfl) (by exact fun _ _ _ h => h) (Or.inl ⟨by rfl, by intro w hSw; (try dsimp only at hSw); first | (go_simp; done) | (go_simp; with_reducible rfl)⟩) (by assumption) ?_
    try simp only [Act.put, qsA, qsB, qsC]
    refine wpAnyH_take (i := 40) (by simp only [qgA, qgB, qgC]; rfl) (by kernel_rfl) (by kernel_rfl) (by kernel_rfl) (by exact fun _ _ _ h => h) (Or.inl ⟨by rfl, by intro w hSw; (try dsimp only at hSw); first | (go_simp; done) | (go_simp; with_reducible rfl)⟩) (by assumption) ?_
    try simp only [Act.put, qsA, qsB, qsC]
    refine wpAnyH_done (by kernel_rfl) ?_ _
    go_wp2_with fail
    go_ret
    exact ⟨rfl, HKF.out.drew⟩
  · simp only at h1 h2 h3 h4
    have d1 : decide ((wh : Int) = 0) = true := by simp [h1]
    have d2 : ((wh : Int) == 0) = true := by simp [h1]
    have d3 : decide ((fw : Int) = 0) = true := by simp [h3]
    have d4 : ((fw : Int) == 0) = true := by simp [h3]
    have q2 : decide (ty = []) = false := by simp; exact h2
    rw [q2] at qy
    have H4 := Lib.hid h4
    clear h1 h2 h3 h4 HCD q2
    have hq : ((bs (noBlanks t)).toList == (bs (noBlanks ty)).toList) = true := by rw [H4.out]; exact beq_self_eq_true _
    have G0 := Lib.hid g0
    have X2 := Lib.hid x2
    go_wp2_with fail
    refine wp_region_held_drew (S := (fun W => W.cell? ⟨w5.heap.size, 0, none⟩ = some (.int .i64 fw) ∧ W.cell? ⟨w1.heap.size, 2, none⟩ = some (.string (bs ty)))) (by kernel_rfl) ?_ (fun hHeld => ?_)
    · exact ⟨g0, x2⟩
    refine wpAnyH_take (i := 0) (by simp only [qgA, qgC]; rfl) (by kernel_rfl) (by kernel_rfl) (by kernel_rfl) (by exact fun _ _ _ h => h) (Or.inl ⟨by rfl, by intro w hSw; (try dsimp only at hSw); first | (go_simp; done) | (go_simp; with_reducible rfl)⟩) (by assumption) ?_
    try simp only [Act.put, qsA, qsB, qsC]
    refine wpAnyH_take (i := 1) (by simp only [qgA, qgB, qgC]; rfl) (by kernel_rfl) (by kernel_rfl) (by kernel_rfl) (by exact fun _ _ _ h => h) (Or.inl ⟨by rfl, by intro w hSw; (try dsimp only at hSw); first | (go_simp; done) | (go_simp; with_reducible rfl)⟩) (by assumption) ?_
    try simp only [Act.put, qsA, qsB, qsC]
    refine wpAnyH_take (i := 2) (by simp only [qgA, qgB, qgC]; rfl) (by kernel_rfl) (by kernel_rfl) (by kernel_rfl) (by exact fun _ _ _ h => h) (Or.inl ⟨by rfl, by intro w hSw; (try dsimp only at hSw); first | (go_simp; done) | (go_simp; with_reducible rfl)⟩) (by assumption) ?_
    try simp only [Act.put, qsA, qsB, qsC]
    refine wpAnyH_take (i := 3) (by simp only [qgA, qgB, qgC]; rfl) (by kernel_rfl) (by kernel_rfl) (by kernel_rfl) (by exact fun _ _ _ h => h) (Or.inl ⟨by rfl, by intro w hSw; (try dsimp only at hSw); first | (go_simp; done) | (go_simp; with_reducible rfl)⟩) (by assumption) ?_
    try simp only [Act.put, qsA, qsB, qsC]
    refine wpAnyH_take (i := 4) (by simp only [qgA, qgB, qgC]; rfl) (by kernel_rfl) (by kernel_rfl) (by kernel_rfl) (by exact fun _ _ _ h => h) (Or.inl ⟨by rfl, by intro w hSw; (try dsimp only at hSw); first | (go_simp; done) | (go_simp; with_reducible rfl)⟩) (by assumption) ?_
    try simp only [Act.put, qsA, qsB, qsC]
    refine wpAnyH_take (i := 6) (by simp only [qgA, qgB, qgC]; rfl) (by kernel_rfl) (by kernel_rfl) (by kernel_rfl) (by exact fun _ _ _ h => h) (Or.inl ⟨by rfl, by intro w hSw; (try dsimp only at hSw); first | (go_simp; done) | (go_simp; with_reducible rfl)⟩) (by assumption) ?_
    try simp only [Act.put, qsA, qsB, qsC]
    refine wpAnyH_take (i := 7) (by simp only [qgA, qgB, qgC]; rfl) (by kernel_rfl) (by kernel_rfl) (by kernel_rfl) (by exact fun _ _ _ h => h) (Or.inl ⟨by rfl, by intro w hSw; (try dsimp only at hSw); first | (go_simp; done) | (go_simp; with_reducible rfl)⟩) (by assumption) ?_
    try simp only [Act.put, qsA, qsB, qsC]
    refine wpAnyH_ready (rs := [5]) (by kernel_rfl) (by simp) ?_
    refine AllReadyH.cons rfl (fun K hK => ?_) AllReadyH.nil
    go_simp
    refine (despaced_any t (by omega) _).mono ?_
    rintro e w6 ⟨rfl, hk6⟩
    have HK6 := Lib.hid hk6
    clear hk6
    go_wp2_with fail
    refine hK.out _ _ ⟨HK6.out.cellSome G0.out (by simp), HK6.out.cellSome X2.out (by simp)⟩ (fun hHeld2 => ?_)
    clear hK K hHeld
    try simp only [Act.put, qsA, qsB, qsC]
    refine wpAnyH_ready (rs := [8]) (by kernel_rfl) (by simp) ?_
    refine AllReadyH.cons rfl (fun K hK => ?_) AllReadyH.nil
    go_simp
    refine (despaced_any ty (by omega) _).mono ?_
    rintro e w7 ⟨rfl, hk7⟩
    have HK7 := Lib.hid (HK6.out.trans0 hk7)
    clear hk7
    go_wp2_with fail
    refine hK.out _ _ ⟨HK7.out.cellSome G0.out (by simp), HK7.out.cellSome X2.out (by simp)⟩ (fun hHeld3 => ?_)
    clear hK K hHeld2
    try simp only [Act.put, qsA, qsB, qsC]
    refine wpAnyH_take (i := 9) (by simp only [qgA, qgB, qgC]; rfl) (by kernel_rfl) (by kernel_rfl) (by kernel_rfl) (by exact fun _ _ _ h => h) (Or.inl ⟨by rfl, by intro w hSw; (try dsimp only at hSw); first | (go_simp; done) | (go_simp; with_reducible rfl)⟩) (by assumption) ?_
    try simp only [Act.put, qsA, qsB, qsC]
    refine wpAnyH_take (i := 10) (by simp only [qgA, qgB, qgC]; rfl) (by kernel_rfl) (by kernel_rfl) (by kernel_rfl) (by exact fun _ _ _ h => h) (Or.inl ⟨by rfl, by intro w hSw; (try dsimp only at hSw); first | (go_simp; done) | (go_simp; with_reducible rfl)⟩) (by assumption) ?_
    try simp only [Act.put, qsA, qsB, qsC]
    refine wpAnyH_take (i := 11) (by simp only [qgA, qgB, qgC]; rfl) (by kernel_rfl) (by kernel_rfl) (by kernel_rfl) (by exact fun _ _ _ h => h) (Or.inl ⟨by rfl, by intro w hSw; (try dsimp only at hSw); first | (go_simp; done) | (go_simp; with_reducible rfl)⟩) (by assumption) ?_
    try simp only [Act.put, qsA, qsB, qsC]
    refine wpAnyH_done (by kernel_rfl) ?_ _
    go_wp2_with fail
    go_ret
    exact ⟨rfl, HKF.out.drew.trans0 HK7.out⟩
end Go.Proofs.YtpbplpnifjbkoabGreatDoor
