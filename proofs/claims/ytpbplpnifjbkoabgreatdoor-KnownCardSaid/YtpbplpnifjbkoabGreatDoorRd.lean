/-
  text.Reader's next, by a contract.
-/
import Derived.Test.YtpbplpnifjbkoabGreatDoorProg
import Derived.WalkKit
import Derived.WalkSpells
import Derived.WalkLawsBesides
import Derived.Handy
import Derived.BigQuiet
import Derived.BigRegion
import Derived.RegionTactic
import Derived.Deep.QuietTactic
import Derived.Deep.LoopGhost
import Derived.Lib.Hide
import Derived.Test.YtpbplpnifjbkoabGreatDoorTokx
namespace Go.Proofs.YtpbplpnifjbkoabGreatDoor
open Go.RowKit

theorem small_any (c : UInt8) (w : World) : Calls Tryz.prog 164 #[.int .u8 c.toNat] w fun e w' => e = .returned (.bool (isSmall c)) ∧ w = w' := by
  have e : isSmall c = (decide (97 ≤ (c.toNat : Int)) && decide ((c.toNat : Int) ≤ 122)) := by
    unfold isSmall
    rw [Bool.eq_iff_iff]
    simp [UInt8.le_iff_toNat_le]
    omega
  rw [e]
  clear e
  go_enter Tryz.func164, Tryz.ntmps164
  go_wp2
  all_goals (go_ret; refine ⟨?_, rfl⟩)
  · rename_i h; simp [h]
  · rename_i h; have h' : ¬ (97 ≤ (c.toNat : Int)) := by omega
    simp [h']
theorem digit_any (c : UInt8) (w : World) : Calls Tryz.prog 165 #[.int .u8 c.toNat] w fun e w' => e = .returned (.bool (isDigit c)) ∧ w = w' := by
  have e : isDigit c = (decide (48 ≤ (c.toNat : Int)) && decide ((c.toNat : Int) ≤ 57)) := by
    unfold isDigit
    rw [Bool.eq_iff_iff]
    simp [UInt8.le_iff_toNat_le]
    omega
  rw [e]
  clear e
  go_enter Tryz.func165, Tryz.ntmps165
  go_wp2
  all_goals (go_ret; refine ⟨?_, rfl⟩)
  · rename_i h; simp [h]
  · rename_i h; have h' : ¬ (48 ≤ (c.toNat : Int)) := by omega
    simp [h']

/-- The reader's block. -/
abbrev rdObj (s : ByteArray) (i : Int) (k t : Value) (p : Int) (kw : Value) : Obj := .cells #[.string s, .int .i64 i, k, t, .int .i64 p, kw] 200 (0, 0)
/-- The reader with a token in hand. -/
def RdAt (s : ByteArray) (rd : Nat) (kwv : Value) (h : Hand) (w : World) : Prop :=
  w.heap[rd]? = some (rdObj s h.nxt (.string (bs (kstr h.tok.kind))) (.string (bs h.tok.text)) h.tok.pos kwv)
def Stepped (s : ByteArray) (rd : Nat) (kwv : Value) (h : Hand) (w : World) (e : Ending) (w' : World) : Prop :=
  e = .returned (.tuple #[]) ∧ RdAt s rd kwv h w' ∧ Keeps [rd] w w'

theorem ba_get (s : ByteArray) (j : Nat) (h : j < s.size) : s.data.toList[j]'(by simpa using h) = s[j] := by simp; rfl

/-- What holds behind the blanks, at place j. -/
structure AtJ (s : ByteArray) (rd i j : Nat) (k t : Value) (p : Int) (kwv : Value) (w wr : World) : Prop where
  le : i ≤ j
  lt : j ≤ s.size
  run : spanLen isBlank (s.data.toList.drop i) = (j - i) + spanLen isBlank (s.data.toList.drop j)
  blk : wr.heap[rd]? = some (rdObj s j k t p kwv)
  keep : Keeps [rd] w wr

set_option maxRecDepth 100000 in
set_option maxHeartbeats 4000000 in
theorem next_any (kf : Nat) (kw : Bytes → Option Kind) (s : ByteArray) (rd i : Nat) (p : Int) (k t : Value) (w : World) (hs : s.size ≤ maxLen) (hi : i ≤ s.size)
    (hkw : ∀ (b : ByteArray) (W : World), Calls Tryz.prog kf #[.string b] W fun e w' => e = .returned (.bool (kw b.data.toList).isSome) ∧ W = w')
    (hstr : ∀ b k, kw b = some k → kstr k = b)
    (hcall : ∀ (b : ByteArray) (W : World), (callFunc kf #[.string b]).run Tryz.prog W = .ok (.enter kf #[.string b]) W)
    (hb : w.heap[rd]? = some (rdObj s i k t p (.func (.func kf) #[] #[]))) :
    Calls Tryz.prog 128 #[.pointer (some ⟨rd, 0, none⟩)] w (Stepped s rd (.func (.func kf) #[] #[]) (handAt kw s.data.toList i) w) := by
  unfold maxLen at hs
  have HKW := Lib.hid hkw
  have HSTR := Lib.hid hstr
  have HCL := Lib.hid hcall
  clear hkw hstr hcall
  go_enter Tryz.func128, Tryz.ntmps128
  go_wp2_with fail
  go_loopg [] (s.size - i) (fun g wr => ∃ j : Nat, g = s.size - j ∧ AtJ s rd i j k t p (.func (.func kf) #[] #[]) w wr)
  case atStart => exact ⟨i, rfl, Nat.le_refl _, hi, by simp, hb, Keeps.refl _ _⟩
  case round =>
    obtain ⟨j, hg, hj⟩ := hrel
    have hjs := hj.lt
    have c0 : wr.cell? ⟨rd, 0, none⟩ = some (.string s) := cell_of_block hj.blk 0
    have c1 : wr.cell? ⟨rd, 1, none⟩ = some (.int .i64 j) := cell_of_block hj.blk 1
    have f1 : wr.frozen? ⟨rd, 1, none⟩ = false := free_of_block hj.blk 1
    have HG := Lib.hid hg
    have HB := Lib.hid hb
    have HI := Lib.hid hi
    clear hg hb hi
    by_cases hbl : ∃ h : j < s.size, isBlank s[j] = true
    · obtain ⟨hlt, hbl⟩ := hbl
      have hdl : decide ((j : Int) < (s.size : Int)) = true := by simp; omega
      have hstep : AtJ s rd i (j + 1) k t p (.func (.func kf) #[] #[]) w (wr.setCell ⟨rd, 1, none⟩ (.int .i64 ((j : Int) + 1))) := by
        refine ⟨by have := hj.le; omega, by omega, ?_, ?_, hj.keep.setCell (Or.inl (by simp)) _⟩
        · rw [hj.run, spanLen_true isBlank s.data.toList j (by simpa using hlt) (by rw [ba_get s j hlt]; exact hbl)]
          have := hj.le; omega
        · rw [heap_setCell_same, hj.blk]; rfl
      have HST := Lib.hid hstep
      clear hstep hj
      rcases (show s[j].toNat = 32 ∨ s[j].toNat = 10 by unfold isBlank at hbl; simp at hbl; rcases hbl with h | h <;> simp [h]) with h32 | h10
      · have e32 : ((s[j].toNat : Int) == 32) = true := by simp [h32]
        clear h32 hbl
        go_wp2_with fail
        go_quiet (fail)
        go_wp2
        go_roundg (s.size - (j + 1))
        case measure => have := HG.out; omega
        case rel => exact ⟨j + 1, rfl, HST.out.le, HST.out.lt, HST.out.run, HST.out.blk, ⟨HST.out.keep.os, HST.out.keep.tape, HST.out.keep.output, HST.out.keep.size, HST.out.keep.block⟩⟩
      · have e32 : ((s[j].toNat : Int) == 32) = false := by simp [h10]
        have e10 : ((s[j].toNat : Int) == 10) = true := by simp [h10]
        clear h10 hbl
        go_wp2_with fail
        go_quiet (fail)
        go_wp2
        go_roundg (s.size - (j + 1))
        case measure => have := HG.out; omega
        case rel => exact ⟨j + 1, rfl, HST.out.le, HST.out.lt, HST.out.run, HST.out.blk, ⟨HST.out.keep.os, HST.out.keep.tape, HST.out.keep.output, HST.out.keep.size, HST.out.keep.block⟩⟩
    · have hrun0 : spanLen isBlank (s.data.toList.drop j) = 0 := by
        by_cases hlt : j < s.size
        · refine spanLen_false isBlank _ j (by simpa using hlt) ?_
          rw [ba_get s j hlt]
          cases hb : isBlank s[j]
          · rfl
          · exact absurd ⟨hlt, hb⟩ hbl
        · exact spanLen_end isBlank _ j (by simp; omega)
      have hhand := hand_of_run kw s.data.toList i j hj.le (by rw [hj.run, hrun0]; omega)
      have HH := Lib.hid hhand
      have HJ := Lib.hid hj
      clear hhand hj hrun0
      by_cases hlt : j < s.size
      · have hnb : isBlank s[j] = false := by
          cases hb : isBlank s[j]
          · rfl
          · exact absurd ⟨hlt, hb⟩ hbl
        have hdl : decide ((j : Int) < (s.size : Int)) = true := by simp; omega
        have hde : ((j : Int) == (s.size : Int)) = false := by simp; omega
        have c2 : wr.cell? ⟨rd, 2, none⟩ = some k := cell_of_block HJ.out.blk 2
        have c3 : wr.cell? ⟨rd, 3, none⟩ = some t := cell_of_block HJ.out.blk 3
        have c4 : wr.cell? ⟨rd, 4, none⟩ = some (.int .i64 p) := cell_of_block HJ.out.blk 4
        have c5 : wr.cell? ⟨rd, 5, none⟩ = some (.func (.func kf) #[] #[]) := cell_of_block HJ.out.blk 5
        have f2 : wr.frozen? ⟨rd, 2, none⟩ = false := free_of_block HJ.out.blk 2
        have f3 : wr.frozen? ⟨rd, 3, none⟩ = false := free_of_block HJ.out.blk 3
        have f4 : wr.frozen? ⟨rd, 4, none⟩ = false := free_of_block HJ.out.blk 4
        have e32 : ((s[j].toNat : Int) == 32) = false := by
          unfold isBlank at hnb; simp at hnb ⊢; intro h; apply hnb.1; apply UInt8.toNat_inj.1; simp; omega
        have e10 : ((s[j].toNat : Int) == 10) = false := by
          unfold isBlank at hnb; simp at hnb ⊢; intro h; apply hnb.2; apply UInt8.toNat_inj.1; simp; omega
        clear hbl hnb
        go_wp2_with fail
        go_quiet (fail)
        clear hdl e32 e10
        go_wp2_with fail
        go_quiet (fail)
        clear hde
        go_wp2_with fail
        refine (small_any s[j] _).mono ?_
        rintro e w1 ⟨rfl, hw1⟩
        have b1 : w1.heap[rd]? = some (rdObj s j (.string ⟨#[110, 111, 110, 101]⟩) (.string ⟨#[]⟩) j (.func (.func kf) #[] #[])) := by
          rw [← hw1]; simp only [heap_drewN, heap_setCell_same, HJ.out.blk]; rfl
        have k1 : Keeps [rd] w w1 := by
          rw [← hw1]; exact ((((HJ.out.keep.drewN _).setCell (Or.inl (by simp)) _).setCell (Or.inl (by simp)) _).setCell (Or.inl (by simp)) _).drewN _
        clear hw1 c0 c1 c2 c3 c4 c5 f1 f2 f3 f4
        have c0 : w1.cell? ⟨rd, 0, none⟩ = some (.string s) := cell_of_block b1 0
        have c1 : w1.cell? ⟨rd, 1, none⟩ = some (.int .i64 j) := cell_of_block b1 1
        have c2 : w1.cell? ⟨rd, 2, none⟩ = some (.string ⟨#[110, 111, 110, 101]⟩) := cell_of_block b1 2
        have c3 : w1.cell? ⟨rd, 3, none⟩ = some (.string ⟨#[]⟩) := cell_of_block b1 3
        have c5 : w1.cell? ⟨rd, 5, none⟩ = some (.func (.func kf) #[] #[]) := cell_of_block b1 5
        have f1 : w1.frozen? ⟨rd, 1, none⟩ = false := free_of_block b1 1
        have f2 : w1.frozen? ⟨rd, 2, none⟩ = false := free_of_block b1 2
        have f3 : w1.frozen? ⟨rd, 3, none⟩ = false := free_of_block b1 3
        have B1 := Lib.hid b1
        have K1 := Lib.hid k1
        clear b1 k1
        cases hsm : isSmall s[j]
        · go_wp2_with fail
          refine (digit_any s[j] _).mono ?_
          rintro e w' ⟨rfl, rfl⟩
          cases hdg : isDigit s[j]
          · have hj2 : j < s.data.toList.length := by simpa using hlt
            have hsm' : isSmall s.data.toList[j] = false := by rw [ba_get s j hlt]; exact hsm
            have hdg' : isDigit s.data.toList[j] = false := by rw [ba_get s j hlt]; exact hdg
            have HSM := Lib.hid hsm'
            have HDG := Lib.hid hdg'
            clear hsm' hsm hdg' hdg
            by_cases harr : s[j] = 45 ∧ ∃ h : j + 1 < s.size, s[j + 1] = 62
            · obtain ⟨h45, hlt1, h62⟩ := harr
              have e45 : ((s[j].toNat : Int) == 45) = true := by rw [h45]; rfl
              have hd1 : decide ((j : Int) + 1 < (s.size : Int)) = true := by simp; omega
              have e62 : ((s[j + 1].toNat : Int) == 62) = true := by rw [h62]; rfl
              have hex : s.extract j (j + 2) = bs [45, 62] := by
                have := bs_extract s.data.toList j (j + 2)
                rw [bs_of] at this; rw [this, show j + 2 - j = 2 by omega, List.drop_eq_getElem_cons hj2, List.take_succ_cons, List.drop_eq_getElem_cons (show j + 1 < s.data.toList.length by simpa using hlt1), List.take_succ_cons, List.take_zero, ba_get s j hlt, ba_get s (j + 1) hlt1, h45, h62]
              have htk : tokAt kw j (s.data.toList.drop j) = (⟨.arrow, [45, 62], j⟩, 2) :=
                tok_arrow kw _ j (by simpa using hlt1) (by rw [ba_get s j hlt]; exact h45) (by rw [ba_get s (j + 1) hlt1]; exact h62)
              have HX := Lib.hid hex
              have HT := Lib.hid htk
              clear h45 h62 hex htk
              go_wp2_with fail
              go_region
              go_wp2_with fail
              go_end0
              refine ⟨rfl, ?_, ?_⟩
              · have hX := HX.out
                unfold RdAt
                rw [HH.out, HT.out]
                skip
                simp only [hX, heap_setCell_same, heap_drew, B1.out]
                rfl
              · repeat (first | exact K1.out | refine Keeps.setCell ?_ (Or.inl (by simp)) _ | refine Keeps.drewN ?_ _ | refine Keeps.drew ?_)

            · by_cases h61 : s[j] = 61
              · have hc := h61
                clear h61
                have e45 : ((s[j].toNat : Int) == 45) = false := by rw [hc]; rfl
                have e61 : ((s[j].toNat : Int) == 61) = true := by rw [hc]; rfl
                have hex : s.extract j (j + 1) = bs [61] := by
                  have := bs_extract s.data.toList j (j + 1)
                  rw [bs_of] at this; rw [this, show j + 1 - j = 1 by omega, List.drop_eq_getElem_cons hj2, List.take_succ_cons, List.take_zero, ba_get s j hlt, hc]
                have htk : tokAt kw j (s.data.toList.drop j) = (⟨.eqs, [61], j⟩, 1) := by
                  rw [tok_sign kw _ j .eqs hj2 (by rw [ba_get s j hlt, hc]; decide) HSM.out HDG.out (by rw [ba_get s j hlt, hc]; decide), ba_get s j hlt, hc]
                have HX := Lib.hid hex
                have HT := Lib.hid htk
                clear hc hex htk
                go_wp2_with fail
                go_region
                go_wp2_with fail
                go_end0
                refine ⟨rfl, ?_, ?_⟩
                · have hX := HX.out
                  unfold RdAt
                  rw [HH.out, HT.out]
                  simp only [hX, heap_setCell_same, heap_drew, B1.out]
                  rfl
                · repeat (first | exact K1.out | refine Keeps.setCell ?_ (Or.inl (by simp)) _ | refine Keeps.drewN ?_ _ | refine Keeps.drew ?_)
              · by_cases h40 : s[j] = 40
                · have hc := h40
                  clear h40
                  have e45 : ((s[j].toNat : Int) == 45) = false := by rw [hc]; rfl
                  have e61 : ((s[j].toNat : Int) == 61) = false := by rw [hc]; rfl
                  have e40 : ((s[j].toNat : Int) == 40) = true := by rw [hc]; rfl
                  have hex : s.extract j (j + 1) = bs [40] := by
                    have := bs_extract s.data.toList j (j + 1)
                    rw [bs_of] at this; rw [this, show j + 1 - j = 1 by omega, List.drop_eq_getElem_cons hj2, List.take_succ_cons, List.take_zero, ba_get s j hlt, hc]
                  have htk : tokAt kw j (s.data.toList.drop j) = (⟨.lpar, [40], j⟩, 1) := by
                    rw [tok_sign kw _ j .lpar hj2 (by rw [ba_get s j hlt, hc]; decide) HSM.out HDG.out (by rw [ba_get s j hlt, hc]; decide), ba_get s j hlt, hc]
                  have HX := Lib.hid hex
                  have HT := Lib.hid htk
                  clear hc hex htk
                  go_wp2_with fail
                  go_region
                  go_wp2_with fail
                  go_end0
                  refine ⟨rfl, ?_, ?_⟩
                  · have hX := HX.out
                    unfold RdAt
                    rw [HH.out, HT.out]
                    simp only [hX, heap_setCell_same, heap_drew, B1.out]
                    rfl
                  · repeat (first | exact K1.out | refine Keeps.setCell ?_ (Or.inl (by simp)) _ | refine Keeps.drewN ?_ _ | refine Keeps.drew ?_)
                · by_cases h41 : s[j] = 41
                  · have hc := h41
                    clear h41
                    have e45 : ((s[j].toNat : Int) == 45) = false := by rw [hc]; rfl
                    have e61 : ((s[j].toNat : Int) == 61) = false := by rw [hc]; rfl
                    have e40 : ((s[j].toNat : Int) == 40) = false := by rw [hc]; rfl
                    have e41 : ((s[j].toNat : Int) == 41) = true := by rw [hc]; rfl
                    have hex : s.extract j (j + 1) = bs [41] := by
                      have := bs_extract s.data.toList j (j + 1)
                      rw [bs_of] at this; rw [this, show j + 1 - j = 1 by omega, List.drop_eq_getElem_cons hj2, List.take_succ_cons, List.take_zero, ba_get s j hlt, hc]
                    have htk : tokAt kw j (s.data.toList.drop j) = (⟨.rpar, [41], j⟩, 1) := by
                      rw [tok_sign kw _ j .rpar hj2 (by rw [ba_get s j hlt, hc]; decide) HSM.out HDG.out (by rw [ba_get s j hlt, hc]; decide), ba_get s j hlt, hc]
                    have HX := Lib.hid hex
                    have HT := Lib.hid htk
                    clear hc hex htk
                    go_wp2_with fail
                    go_region
                    go_wp2_with fail
                    go_end0
                    refine ⟨rfl, ?_, ?_⟩
                    · have hX := HX.out
                      unfold RdAt
                      rw [HH.out, HT.out]
                      simp only [hX, heap_setCell_same, heap_drew, B1.out]
                      rfl
                    · repeat (first | exact K1.out | refine Keeps.setCell ?_ (Or.inl (by simp)) _ | refine Keeps.drewN ?_ _ | refine Keeps.drew ?_)
                  · by_cases h44 : s[j] = 44
                    · have hc := h44
                      clear h44
                      have e45 : ((s[j].toNat : Int) == 45) = false := by rw [hc]; rfl
                      have e61 : ((s[j].toNat : Int) == 61) = false := by rw [hc]; rfl
                      have e40 : ((s[j].toNat : Int) == 40) = false := by rw [hc]; rfl
                      have e41 : ((s[j].toNat : Int) == 41) = false := by rw [hc]; rfl
                      have e44 : ((s[j].toNat : Int) == 44) = true := by rw [hc]; rfl
                      have hex : s.extract j (j + 1) = bs [44] := by
                        have := bs_extract s.data.toList j (j + 1)
                        rw [bs_of] at this; rw [this, show j + 1 - j = 1 by omega, List.drop_eq_getElem_cons hj2, List.take_succ_cons, List.take_zero, ba_get s j hlt, hc]
                      have htk : tokAt kw j (s.data.toList.drop j) = (⟨.comma, [44], j⟩, 1) := by
                        rw [tok_sign kw _ j .comma hj2 (by rw [ba_get s j hlt, hc]; decide) HSM.out HDG.out (by rw [ba_get s j hlt, hc]; decide), ba_get s j hlt, hc]
                      have HX := Lib.hid hex
                      have HT := Lib.hid htk
                      clear hc hex htk
                      go_wp2_with fail
                      go_region
                      go_wp2_with fail
                      go_end0
                      refine ⟨rfl, ?_, ?_⟩
                      · have hX := HX.out
                        unfold RdAt
                        rw [HH.out, HT.out]
                        simp only [hX, heap_setCell_same, heap_drew, B1.out]
                        rfl
                      · repeat (first | exact K1.out | refine Keeps.setCell ?_ (Or.inl (by simp)) _ | refine Keeps.drewN ?_ _ | refine Keeps.drew ?_)
                    · by_cases h91 : s[j] = 91
                      · have hc := h91
                        clear h91
                        have e45 : ((s[j].toNat : Int) == 45) = false := by rw [hc]; rfl
                        have e61 : ((s[j].toNat : Int) == 61) = false := by rw [hc]; rfl
                        have e40 : ((s[j].toNat : Int) == 40) = false := by rw [hc]; rfl
                        have e41 : ((s[j].toNat : Int) == 41) = false := by rw [hc]; rfl
                        have e44 : ((s[j].toNat : Int) == 44) = false := by rw [hc]; rfl
                        have e91 : ((s[j].toNat : Int) == 91) = true := by rw [hc]; rfl
                        have hex : s.extract j (j + 1) = bs [91] := by
                          have := bs_extract s.data.toList j (j + 1)
                          rw [bs_of] at this; rw [this, show j + 1 - j = 1 by omega, List.drop_eq_getElem_cons hj2, List.take_succ_cons, List.take_zero, ba_get s j hlt, hc]
                        have htk : tokAt kw j (s.data.toList.drop j) = (⟨.lbr, [91], j⟩, 1) := by
                          rw [tok_sign kw _ j .lbr hj2 (by rw [ba_get s j hlt, hc]; decide) HSM.out HDG.out (by rw [ba_get s j hlt, hc]; decide), ba_get s j hlt, hc]
                        have HX := Lib.hid hex
                        have HT := Lib.hid htk
                        clear hc hex htk
                        go_wp2_with fail
                        go_region
                        go_wp2_with fail
                        go_end0
                        refine ⟨rfl, ?_, ?_⟩
                        · have hX := HX.out
                          unfold RdAt
                          rw [HH.out, HT.out]
                          simp only [hX, heap_setCell_same, heap_drew, B1.out]
                          rfl
                        · repeat (first | exact K1.out | refine Keeps.setCell ?_ (Or.inl (by simp)) _ | refine Keeps.drewN ?_ _ | refine Keeps.drew ?_)
                      · by_cases h93 : s[j] = 93
                        · have hc := h93
                          clear h93
                          have e45 : ((s[j].toNat : Int) == 45) = false := by rw [hc]; rfl
                          have e61 : ((s[j].toNat : Int) == 61) = false := by rw [hc]; rfl
                          have e40 : ((s[j].toNat : Int) == 40) = false := by rw [hc]; rfl
                          have e41 : ((s[j].toNat : Int) == 41) = false := by rw [hc]; rfl
                          have e44 : ((s[j].toNat : Int) == 44) = false := by rw [hc]; rfl
                          have e91 : ((s[j].toNat : Int) == 91) = false := by rw [hc]; rfl
                          have e93 : ((s[j].toNat : Int) == 93) = true := by rw [hc]; rfl
                          have hex : s.extract j (j + 1) = bs [93] := by
                            have := bs_extract s.data.toList j (j + 1)
                            rw [bs_of] at this; rw [this, show j + 1 - j = 1 by omega, List.drop_eq_getElem_cons hj2, List.take_succ_cons, List.take_zero, ba_get s j hlt, hc]
                          have htk : tokAt kw j (s.data.toList.drop j) = (⟨.rbr, [93], j⟩, 1) := by
                            rw [tok_sign kw _ j .rbr hj2 (by rw [ba_get s j hlt, hc]; decide) HSM.out HDG.out (by rw [ba_get s j hlt, hc]; decide), ba_get s j hlt, hc]
                          have HX := Lib.hid hex
                          have HT := Lib.hid htk
                          clear hc hex htk
                          go_wp2_with fail
                          go_region
                          go_wp2_with fail
                          go_end0
                          refine ⟨rfl, ?_, ?_⟩
                          · have hX := HX.out
                            unfold RdAt
                            rw [HH.out, HT.out]
                            simp only [hX, heap_setCell_same, heap_drew, B1.out]
                            rfl
                          · repeat (first | exact K1.out | refine Keeps.setCell ?_ (Or.inl (by simp)) _ | refine Keeps.drewN ?_ _ | refine Keeps.drew ?_)
                        · have hn : signKind s[j] = none := by
                            unfold signKind
                            rw [if_neg h61, if_neg h40, if_neg h41, if_neg h44, if_neg h91, if_neg h93]
                          have htk : tokAt kw j (s.data.toList.drop j) = (⟨.bad, [], j⟩, 0) := by
                            refine tok_bad kw _ j hj2 (by rw [ba_get s j hlt]; exact hn) HSM.out HDG.out ?_
                            rintro ⟨h1, h2, h3⟩
                            rw [ba_get s j hlt] at h1
                            rw [ba_get s (j + 1) (by simpa using h2)] at h3
                            exact harr ⟨h1, by simpa using h2, h3⟩
                          have e61 : ((s[j].toNat : Int) == 61) = false := by
                            have hq : s[j].toNat ≠ 61 := fun hx => h61 (UInt8.toNat_inj.1 hx)
                            simp; omega
                          have e40 : ((s[j].toNat : Int) == 40) = false := by
                            have hq : s[j].toNat ≠ 40 := fun hx => h40 (UInt8.toNat_inj.1 hx)
                            simp; omega
                          have e41 : ((s[j].toNat : Int) == 41) = false := by
                            have hq : s[j].toNat ≠ 41 := fun hx => h41 (UInt8.toNat_inj.1 hx)
                            simp; omega
                          have e44 : ((s[j].toNat : Int) == 44) = false := by
                            have hq : s[j].toNat ≠ 44 := fun hx => h44 (UInt8.toNat_inj.1 hx)
                            simp; omega
                          have e91 : ((s[j].toNat : Int) == 91) = false := by
                            have hq : s[j].toNat ≠ 91 := fun hx => h91 (UInt8.toNat_inj.1 hx)
                            simp; omega
                          have e93 : ((s[j].toNat : Int) == 93) = false := by
                            have hq : s[j].toNat ≠ 93 := fun hx => h93 (UInt8.toNat_inj.1 hx)
                            simp; omega
                          have hclose : RdAt s rd (.func (.func kf) #[] #[]) (handAt kw s.data.toList i) w1 := by
                            unfold RdAt
                            rw [HH.out, htk]
                            exact B1.out
                          have HC := Lib.hid hclose
                          clear hclose htk hn h61 h40 h41 h44 h91 h93
                          by_cases h45 : s[j] = 45
                          · have e45 : ((s[j].toNat : Int) == 45) = true := by rw [h45]; rfl
                            by_cases hlt1 : j + 1 < s.size
                            · have hd1 : decide ((j : Int) + 1 < (s.size : Int)) = true := by simp; omega
                              have e62 : ((s[j + 1].toNat : Int) == 62) = false := by
                                have hq : s[j + 1].toNat ≠ 62 := fun hx => harr ⟨h45, hlt1, UInt8.toNat_inj.1 hx⟩
                                simp; omega
                              clear harr h45
                              go_wp2_with fail
                              go_end0
                              exact ⟨rfl, HC.out, K1.out⟩
                            · have hd1 : decide ((j : Int) + 1 < (s.size : Int)) = false := by simp; omega
                              clear harr h45
                              go_wp2_with fail
                              go_end0
                              exact ⟨rfl, HC.out, K1.out⟩
                          · have e45 : ((s[j].toNat : Int) == 45) = false := by
                              have hq : s[j].toNat ≠ 45 := fun hx => h45 (UInt8.toNat_inj.1 hx)
                              simp; omega
                            clear harr h45
                            go_wp2_with fail
                            go_end0
                            exact ⟨rfl, HC.out, K1.out⟩

          · go_wp2_with fail
            go_loopg [2] (s.size - j) (fun g v wx => ∃ q : Nat, g = s.size - q ∧ v = .int .i64 q ∧ j ≤ q ∧ q ≤ s.size ∧ spanLen isDigit (s.data.toList.drop j) = (q - j) + spanLen isDigit (s.data.toList.drop q) ∧ w1 = wx)
            case atStart => exact ⟨j, rfl, rfl, Nat.le_refl _, hjs, by simp, rfl⟩
            case round =>
              obtain ⟨q, hgq, rfl, hjq, hqs, hsp, rfl⟩ := hrel
              have HG2 := Lib.hid hgq
              have HSP := Lib.hid hsp
              clear HG hgq hsp
              by_cases hmore : ∃ h : q < s.size, isDigit s[q] = true
              · obtain ⟨hqlt, hal⟩ := hmore
                have hdq : decide ((q : Int) < (s.size : Int)) = true := by simp; omega
                have hnext : spanLen isDigit (s.data.toList.drop j) = (q + 1 - j) + spanLen isDigit (s.data.toList.drop (q + 1)) := by
                  rw [HSP.out, spanLen_true isDigit s.data.toList q (by simpa using hqlt) (by rw [ba_get s q hqlt]; exact hal)]
                  omega
                have HN := Lib.hid hnext
                clear hnext
                go_wp2_with (first | (go_at_call 165; refine (digit_any s[q] _).mono ?_; rintro e w' ⟨rfl, rfl⟩))
                go_roundg (s.size - (q + 1))
                case measure => have := HG2.out; omega
                case rel => exact ⟨q + 1, rfl, by go_num, by omega, by omega, HN.out, rfl⟩
              · have hL : spanLen isDigit (s.data.toList.drop j) = q - j := by
                  have h0 : spanLen isDigit (s.data.toList.drop q) = 0 := by
                    by_cases hqlt : q < s.size
                    · refine spanLen_false isDigit _ q (by simpa using hqlt) ?_
                      rw [ba_get s q hqlt]
                      cases hb : isDigit s[q]
                      · rfl
                      · exact absurd ⟨hqlt, hb⟩ hmore
                    · exact spanLen_end isDigit _ q (by simp; omega)
                  rw [HSP.out, h0]; rfl
                have HL := Lib.hid hL
                clear hL
                have hj2 : j < s.data.toList.length := by simpa using hlt
                have hsm' : isSmall s.data.toList[j] = false := by rw [ba_get s j hlt]; exact hsm
                have hdg' : isDigit s.data.toList[j] = true := by rw [ba_get s j hlt]; exact hdg
                have HSM := Lib.hid hsm'
                have HDG := Lib.hid hdg'
                clear hsm' hsm hdg' hdg
                have hex : s.extract j q = bs ((s.data.toList.drop j).take (q - j)) := by
                  have := bs_extract s.data.toList j q
                  rw [bs_of] at this; exact this
                have HEX := Lib.hid hex
                clear hex
                by_cases h8 : 8 < (q : Int) - j
                · have hclose : RdAt s rd (.func (.func kf) #[] #[]) (handAt kw s.data.toList i) w1 := by
                    unfold RdAt
                    rw [HH.out, tok_digit_long kw _ j hj2 HSM.out HDG.out (by rw [HL.out]; omega)]
                    exact B1.out
                  have HC := Lib.hid hclose
                  clear hclose
                  by_cases hqlt : q < s.size
                  · have hdq : decide ((q : Int) < (s.size : Int)) = true := by simp; omega
                    have hq2 : isDigit s[q] = false := by
                      cases h2 : isDigit s[q] <;> first | rfl | exact absurd ⟨hqlt, h2⟩ hmore
                    clear hmore
                    go_wp2_with (first | (go_at_call 165; refine (digit_any s[q] _).mono ?_; rintro e w' ⟨rfl, rfl⟩))
                    go_end0
                    exact ⟨rfl, HC.out, K1.out⟩
                  · have hdq : decide ((q : Int) < (s.size : Int)) = false := by simp; omega
                    clear hmore
                    go_wp2_with fail
                    go_end0
                    exact ⟨rfl, HC.out, K1.out⟩
                · by_cases hqlt : q < s.size
                  · have hdq : decide ((q : Int) < (s.size : Int)) = true := by simp; omega
                    have hq2 : isDigit s[q] = false := by
                      cases h2 : isDigit s[q] <;> first | rfl | exact absurd ⟨hqlt, h2⟩ hmore
                    clear hmore
                    go_wp2_with (first | (go_at_call 165; refine (digit_any s[q] _).mono ?_; rintro e w' ⟨rfl, rfl⟩))
                    go_region
                    go_wp2_with fail
                    go_end0
                    refine ⟨rfl, ?_, ?_⟩
                    · unfold RdAt
                      rw [HH.out, tok_digit kw _ j hj2 HSM.out HDG.out (by rw [HL.out]; omega), HL.out, show j + (q - j) = q by omega]
                      simp only [← HEX.out, heap_setCell_same, heap_drew, B1.out]
                      rfl
                    · repeat (first | exact K1.out | refine Keeps.setCell ?_ (Or.inl (by simp)) _ | refine Keeps.drewN ?_ _ | refine Keeps.drew ?_)
                  · have hdq : decide ((q : Int) < (s.size : Int)) = false := by simp; omega
                    clear hmore
                    go_wp2_with fail
                    go_region
                    go_wp2_with fail
                    go_end0
                    refine ⟨rfl, ?_, ?_⟩
                    · unfold RdAt
                      rw [HH.out, tok_digit kw _ j hj2 HSM.out HDG.out (by rw [HL.out]; omega), HL.out, show j + (q - j) = q by omega]
                      simp only [← HEX.out, heap_setCell_same, heap_drew, B1.out]
                      rfl
                    · repeat (first | exact K1.out | refine Keeps.setCell ?_ (Or.inl (by simp)) _ | refine Keeps.drewN ?_ _ | refine Keeps.drew ?_)
        · go_wp2_with fail
          go_loopg [2] (s.size - j) (fun g v wx => ∃ q : Nat, g = s.size - q ∧ v = .int .i64 q ∧ j ≤ q ∧ q ≤ s.size ∧ spanLen isAlnum (s.data.toList.drop j) = (q - j) + spanLen isAlnum (s.data.toList.drop q) ∧ w1 = wx)
          case atStart => exact ⟨j, rfl, rfl, Nat.le_refl _, hjs, by simp, rfl⟩
          case round =>
            obtain ⟨q, hgq, rfl, hjq, hqs, hsp, rfl⟩ := hrel
            have HG2 := Lib.hid hgq
            have HSP := Lib.hid hsp
            clear HG hgq hsp
            by_cases hmore : ∃ h : q < s.size, isAlnum s[q] = true
            · obtain ⟨hqlt, hal⟩ := hmore
              have hdq : decide ((q : Int) < (s.size : Int)) = true := by simp; omega
              have hnext : spanLen isAlnum (s.data.toList.drop j) = (q + 1 - j) + spanLen isAlnum (s.data.toList.drop (q + 1)) := by
                rw [HSP.out, spanLen_true isAlnum s.data.toList q (by simpa using hqlt) (by rw [ba_get s q hqlt]; exact hal)]
                omega
              have HN := Lib.hid hnext
              clear hnext
              cases hq1 : isSmall s[q]
              · have hq2 : isDigit s[q] = true := by simpa [isAlnum, hq1] using hal
                clear hal
                go_wp2_with (first | (go_at_call 164; refine (small_any s[q] _).mono ?_; rintro e w' ⟨rfl, rfl⟩) | (go_at_call 165; refine (digit_any s[q] _).mono ?_; rintro e w' ⟨rfl, rfl⟩))
                go_roundg (s.size - (q + 1))
                case measure => have := HG2.out; omega
                case rel => exact ⟨q + 1, rfl, by go_num, by omega, by omega, HN.out, rfl⟩
              · clear hal
                go_wp2_with (first | (go_at_call 164; refine (small_any s[q] _).mono ?_; rintro e w' ⟨rfl, rfl⟩) | (go_at_call 165; refine (digit_any s[q] _).mono ?_; rintro e w' ⟨rfl, rfl⟩))
                go_roundg (s.size - (q + 1))
                case measure => have := HG2.out; omega
                case rel => exact ⟨q + 1, rfl, by go_num, by omega, by omega, HN.out, rfl⟩
            · have hL : spanLen isAlnum (s.data.toList.drop j) = q - j := by
                have h0 : spanLen isAlnum (s.data.toList.drop q) = 0 := by
                  by_cases hqlt : q < s.size
                  · refine spanLen_false isAlnum _ q (by simpa using hqlt) ?_
                    rw [ba_get s q hqlt]
                    cases hb : isAlnum s[q]
                    · rfl
                    · exact absurd ⟨hqlt, hb⟩ hmore
                  · exact spanLen_end isAlnum _ q (by simp; omega)
                rw [HSP.out, h0]; rfl
              have HL := Lib.hid hL
              clear hL
              have hj2 : j < s.data.toList.length := by simpa using hlt
              have hsm' : isSmall s.data.toList[j] = true := by rw [ba_get s j hlt]; exact hsm
              have HSM := Lib.hid hsm'
              clear hsm' hsm
              have hex : s.extract j q = bs ((s.data.toList.drop j).take (q - j)) := by
                have := bs_extract s.data.toList j q
                rw [bs_of] at this; exact this
              have HEX := Lib.hid hex
              clear hex
              by_cases h8 : 8 < (q : Int) - j
              · have hclose : RdAt s rd (.func (.func kf) #[] #[]) (handAt kw s.data.toList i) w1 := by
                  unfold RdAt
                  rw [HH.out, tok_small_long kw _ j hj2 HSM.out (by rw [HL.out]; omega)]
                  exact B1.out
                have HC := Lib.hid hclose
                clear hclose
                by_cases hqlt : q < s.size
                · have hdq : decide ((q : Int) < (s.size : Int)) = true := by simp; omega
                  obtain ⟨hq1, hq2⟩ : isSmall s[q] = false ∧ isDigit s[q] = false := by
                    cases h1 : isSmall s[q] <;> cases h2 : isDigit s[q] <;> first | exact ⟨rfl, rfl⟩ | exact absurd ⟨hqlt, by simp [isAlnum, h1, h2]⟩ hmore
                  clear hmore
                  go_wp2_with (first | (go_at_call 164; refine (small_any s[q] _).mono ?_; rintro e w' ⟨rfl, rfl⟩) | (go_at_call 165; refine (digit_any s[q] _).mono ?_; rintro e w' ⟨rfl, rfl⟩))
                  go_end0
                  exact ⟨rfl, HC.out, K1.out⟩
                · have hdq : decide ((q : Int) < (s.size : Int)) = false := by simp; omega
                  clear hmore
                  go_wp2_with fail
                  go_end0
                  exact ⟨rfl, HC.out, K1.out⟩
              · have h8' : decide (8 < (q : Int) - j) = false := by simpa using h8
                clear h8'
                by_cases hqlt : q < s.size
                · have hdq : decide ((q : Int) < (s.size : Int)) = true := by simp; omega
                  obtain ⟨hq1, hq2⟩ : isSmall s[q] = false ∧ isDigit s[q] = false := by
                    cases h1 : isSmall s[q] <;> cases h2 : isDigit s[q] <;> first | exact ⟨rfl, rfl⟩ | exact absurd ⟨hqlt, by simp [isAlnum, h1, h2]⟩ hmore
                  clear hmore
                  go_wp2_with (first | (go_at_call 164; refine (small_any s[q] _).mono ?_; rintro e w' ⟨rfl, rfl⟩) | (go_at_call 165; refine (digit_any s[q] _).mono ?_; rintro e w' ⟨rfl, rfl⟩))
                  cases hkc : kw (s.extract j q).data.toList with
                    | none =>
                      have hcall := HCL.out (s.extract j q)
                      have hks : (kw (s.extract j q).data.toList).isSome = false := by rw [hkc]; rfl
                      have HKC := Lib.hid hkc
                      clear hkc
                      go_quiet ((refine Calls.quiet_of_same (v := .bool false) ((HKW.out _ _).mono fun _ _ h => ⟨h.1.trans (by rw [hks]), h.2.symm⟩)))
                      clear hcall
                      go_wp2_with fail
                      go_region
                      go_wp2_with fail
                      go_end0
                      refine ⟨rfl, ?_, ?_⟩
                      · have hkt : kw ((s.data.toList.drop j).take (q - j)) = none := by rw [← HKC.out, HEX.out, bs_data]
                        unfold RdAt
                        rw [HH.out, tok_small kw _ j hj2 HSM.out (by rw [HL.out]; omega), HL.out, show j + (q - j) = q by omega]
                        simp only [← HEX.out, hkt, Option.getD_none, heap_setCell_same, heap_drewN, B1.out]
                        rfl
                      · repeat (first | exact K1.out | refine Keeps.setCell ?_ (Or.inl (by simp)) _ | refine Keeps.drewN ?_ _ | refine Keeps.drew ?_)
                    | some k0 =>
                      have hcall := HCL.out (s.extract j q)
                      have hks : (kw (s.extract j q).data.toList).isSome = true := by rw [hkc]; rfl
                      have HKC := Lib.hid hkc
                      clear hkc
                      go_quiet ((refine Calls.quiet_of_same (v := .bool true) ((HKW.out _ _).mono fun _ _ h => ⟨h.1.trans (by rw [hks]), h.2.symm⟩)))
                      clear hcall
                      go_wp2_with fail
                      go_region
                      go_wp2_with fail
                      go_region
                      go_wp2_with fail
                      go_end0
                      refine ⟨rfl, ?_, ?_⟩
                      · have hkt : kw ((s.data.toList.drop j).take (q - j)) = some k0 := by rw [← HKC.out, HEX.out, bs_data]
                        have hks : kstr k0 = (s.data.toList.drop j).take (q - j) := HSTR.out _ _ hkt
                        unfold RdAt
                        rw [HH.out, tok_small kw _ j hj2 HSM.out (by rw [HL.out]; omega), HL.out, show j + (q - j) = q by omega]
                        simp only [← HEX.out, hkt, hks, Option.getD_some, heap_setCell_same, heap_drewN, heap_drew, B1.out]
                        rfl
                      · repeat (first | exact K1.out | refine Keeps.setCell ?_ (Or.inl (by simp)) _ | refine Keeps.drewN ?_ _ | refine Keeps.drew ?_)
                · have hdq : decide ((q : Int) < (s.size : Int)) = false := by simp; omega
                  clear hmore
                  go_wp2_with fail
                  cases hkc : kw (s.extract j q).data.toList with
                    | none =>
                      have hcall := HCL.out (s.extract j q)
                      have hks : (kw (s.extract j q).data.toList).isSome = false := by rw [hkc]; rfl
                      have HKC := Lib.hid hkc
                      clear hkc
                      go_quiet ((refine Calls.quiet_of_same (v := .bool false) ((HKW.out _ _).mono fun _ _ h => ⟨h.1.trans (by rw [hks]), h.2.symm⟩)))
                      clear hcall
                      go_wp2_with fail
                      go_region
                      go_wp2_with fail
                      go_end0
                      refine ⟨rfl, ?_, ?_⟩
                      · have hkt : kw ((s.data.toList.drop j).take (q - j)) = none := by rw [← HKC.out, HEX.out, bs_data]
                        unfold RdAt
                        rw [HH.out, tok_small kw _ j hj2 HSM.out (by rw [HL.out]; omega), HL.out, show j + (q - j) = q by omega]
                        simp only [← HEX.out, hkt, Option.getD_none, heap_setCell_same, heap_drewN, B1.out]
                        rfl
                      · repeat (first | exact K1.out | refine Keeps.setCell ?_ (Or.inl (by simp)) _ | refine Keeps.drewN ?_ _ | refine Keeps.drew ?_)
                    | some k0 =>
                      have hcall := HCL.out (s.extract j q)
                      have hks : (kw (s.extract j q).data.toList).isSome = true := by rw [hkc]; rfl
                      have HKC := Lib.hid hkc
                      clear hkc
                      go_quiet ((refine Calls.quiet_of_same (v := .bool true) ((HKW.out _ _).mono fun _ _ h => ⟨h.1.trans (by rw [hks]), h.2.symm⟩)))
                      clear hcall
                      go_wp2_with fail
                      go_region
                      go_wp2_with fail
                      go_region
                      go_wp2_with fail
                      go_end0
                      refine ⟨rfl, ?_, ?_⟩
                      · have hkt : kw ((s.data.toList.drop j).take (q - j)) = some k0 := by rw [← HKC.out, HEX.out, bs_data]
                        have hks : kstr k0 = (s.data.toList.drop j).take (q - j) := HSTR.out _ _ hkt
                        unfold RdAt
                        rw [HH.out, tok_small kw _ j hj2 HSM.out (by rw [HL.out]; omega), HL.out, show j + (q - j) = q by omega]
                        simp only [← HEX.out, hkt, hks, Option.getD_some, heap_setCell_same, heap_drewN, heap_drew, B1.out]
                        rfl
                      · repeat (first | exact K1.out | refine Keeps.setCell ?_ (Or.inl (by simp)) _ | refine Keeps.drewN ?_ _ | refine Keeps.drew ?_)
      · have hclose : tokAt kw j (s.data.toList.drop j) = (⟨.eof, [], j⟩, 0) := tok_end kw _ j (by simp; omega)
        have HT := Lib.hid hclose
        have hdl : decide ((j : Int) < (s.size : Int)) = false := by simp; omega
        have hde : ((j : Int) == (s.size : Int)) = true := by simp; omega
        have c2 : wr.cell? ⟨rd, 2, none⟩ = some k := cell_of_block HJ.out.blk 2
        have c3 : wr.cell? ⟨rd, 3, none⟩ = some t := cell_of_block HJ.out.blk 3
        have c4 : wr.cell? ⟨rd, 4, none⟩ = some (.int .i64 p) := cell_of_block HJ.out.blk 4
        have f2 : wr.frozen? ⟨rd, 2, none⟩ = false := free_of_block HJ.out.blk 2
        have f3 : wr.frozen? ⟨rd, 3, none⟩ = false := free_of_block HJ.out.blk 3
        have f4 : wr.frozen? ⟨rd, 4, none⟩ = false := free_of_block HJ.out.blk 4
        clear hclose hbl
        go_wp2_with fail
        go_quiet (fail)
        go_wp2_with fail
        go_quiet (fail)
        go_wp2_with fail
        go_end0
        refine ⟨rfl, ?_, ?_⟩
        · unfold RdAt
          rw [HH.out, HT.out]
          simp only [heap_setCell_same, heap_drewN, HJ.out.blk]
          rfl
        · repeat (first | exact HJ.out.keep | refine Keeps.setCell ?_ (Or.inl (by simp)) _ | refine Keeps.drewN ?_ _ | refine Keeps.drew ?_)
end Go.Proofs.YtpbplpnifjbkoabGreatDoor
