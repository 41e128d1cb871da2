/-
  The document's Text of an application.
-/
import Derived.Test.YtpbplpnifjbkoaaDoorRtext
namespace Go.Proofs.YtpbplpnifjbkoaaDoor
open Go.RowKit

theorem bs_toL (l : Bytes) : (bs l).toList = l := by rw [ByteArray.toList_eq, bs_data]
abbrev isW (b : Bytes) (l : Bytes) : Bool := ((bs b).toList == l)
theorem fun_cases {f : Exp} (hw : wfE false f = true) :
    (bareFun f = true ∧ isW (opOf f) [102, 117, 110] = false ∧ isW (opOf f) [105, 102] = false ∧ isW (opOf f) [108, 101, 116] = false ∧ isW (opOf f) [114, 101, 99] = false) ∨
    (bareFun f = false ∧ (isW (opOf f) [102, 117, 110] = true ∨ (isW (opOf f) [102, 117, 110] = false ∧ isW (opOf f) [105, 102] = true) ∨ (isW (opOf f) [102, 117, 110] = false ∧ isW (opOf f) [105, 102] = false ∧ isW (opOf f) [108, 101, 116] = true) ∨
      (isW (opOf f) [102, 117, 110] = false ∧ isW (opOf f) [105, 102] = false ∧ isW (opOf f) [108, 101, 116] = false ∧ isW (opOf f) [114, 101, 99] = true))) := by
  simp only [isW, bs_toL]
  cases f <;> first | (simp [wfE] at hw; done) | simp [bareFun, opOf, oName, oNum, oFun, oApp, oPair, oLet, oRec, oIf]
theorem arg_cases {f : Exp} (hw : wfE false f = true) :
    (bareArg f = false ∧ isW (opOf f) [110, 97, 109, 101] = false ∧ isW (opOf f) [110, 117, 109] = false ∧ isW (opOf f) [112, 97, 105, 114] = false) ∨
    (bareArg f = true ∧ (isW (opOf f) [110, 97, 109, 101] = true ∨ (isW (opOf f) [110, 97, 109, 101] = false ∧ isW (opOf f) [110, 117, 109] = true) ∨ (isW (opOf f) [110, 97, 109, 101] = false ∧ isW (opOf f) [110, 117, 109] = false ∧ isW (opOf f) [112, 97, 105, 114] = true))) := by
  simp only [isW, bs_toL]
  cases f <;> first | (simp [wfE] at hw; done) | simp [bareArg, opOf, oName, oNum, oFun, oApp, oPair, oLet, oRec, oIf]

set_option maxRecDepth 100000 in
set_option maxHeartbeats 4000000 in
theorem rtext_app (w0 : World) (lo hi : Nat) (p : Nat) (f a : Exp) (v : Value) (h : RExpAt w0 lo hi (.app p f a) [] [] v) (hw : wfE false (.app p f a) = true) (hl : (textE (.app p f a)).length ≤ 200000)
    (ihf : ∀ v, RExpAt w0 lo hi f [] [] v → TextIH w0 f v) (iha : ∀ v, RExpAt w0 lo hi a [] [] v → TextIH w0 a v) : TextIH w0 (.app p f a) v := by
  intro w hkw
  obtain ⟨_, _, vf, va, q, h, hf, ha⟩ := h
  obtain ⟨b, sn, sl, hb1, hb2, rfl, hb, hrn, hrl⟩ := h
  obtain ⟨adn, capn, adl, capl, c0, c1, c2, hn, hv⟩ := Node.facts (show Node w0 lo hi oApp [] [vf, va] q _ from ⟨b, sn, sl, hb1, hb2, rfl, hb, hrn, hrl⟩) (Keeps.refl [] w0)
  obtain ⟨gl, rfl, l0⟩ := hv 0 _ rfl
  obtain ⟨gl, e1, l1⟩ := hv 1 _ rfl
  cases e1
  simp only [wfE, Bool.and_eq_true] at hw
  obtain ⟨nsf, vsf, qf, hnf⟩ := node_op hw.1 hf
  obtain ⟨nsa, vsa, qa, hna⟩ := node_op hw.2 ha
  obtain ⟨bf, rfl⟩ := hf.ptr hw.1
  obtain ⟨ba, rfl⟩ := ha.ptr hw.2
  obtain ⟨_, _, _, _, of, _, _, _, _⟩ := hnf.facts (Keeps.refl [] w0)
  obtain ⟨_, _, _, _, oa, _, _, _, _⟩ := hna.facts (Keeps.refl [] w0)
  have FC := Lib.hid (fun_cases hw.1)
  have AC := Lib.hid (arg_cases hw.2)
  have Hf := Lib.hid (ihf _ hf)
  have Ha := Lib.hid (iha _ ha)
  have HL := Lib.hid hl
  have HKW := Lib.hid hkw
  have C2 := Lib.hid c2
  have L0 := Lib.hid l0
  have L1 := Lib.hid l1
  have OF := Lib.hid of
  have OA := Lib.hid oa
  have C0 := Lib.hid c0
  have d0 : w.cell? ⟨b, 0, none⟩ = some (.string ⟨#[97, 112, 112]⟩) := hkw.cellSome c0 (by simp)
  have d2 : w.cell? ⟨b, 2, none⟩ = some (.slice (some ⟨gl, 0, none⟩) 2 capl) := hkw.cellSome c2 (by simp)
  have dl0 : w.cell? ⟨gl, 0, none⟩ = some (.pointer (some ⟨bf, 0, none⟩)) := hkw.cellSome l0 (by simp)
  clear hn hv hb hrn hrl hl hw hf ha ihf iha c0 c1 c2 l0 l1 of oa hkw hnf hna
  go_enter Tryd.func11, Tryd.ntmps11
  go_wp2_with fail
  refine (Hf.out _ HKW.out).mono ?_
  rintro e w1 ⟨rfl, hk⟩
  have K1 := Lib.hid (HKW.out.trans0 hk)
  have KW1 := Lib.hid hk
  have d2' : w1.cell? ⟨b, 2, none⟩ = some (.slice (some ⟨gl, 0, none⟩) 2 capl) := K1.out.cellSome C2.out (by simp)
  have dl0' : w1.cell? ⟨gl, 0, none⟩ = some (.pointer (some ⟨bf, 0, none⟩)) := K1.out.cellSome L0.out (by simp)
  have dof : w1.cell? ⟨bf, 0, none⟩ = some (.string (bs (opOf f))) := K1.out.cellSome OF.out (by simp)
  clear d0 d2 dl0 hk
  have dl1' : w1.cell? ⟨gl, 1, none⟩ = some (.pointer (some ⟨ba, 0, none⟩)) := K1.out.cellSome L1.out (by simp)
  have hl := HL.out
  simp only [textE, List.length_append, List.length_cons, List.length_nil] at hl
  rcases FC.out with ⟨hbf, q1, q2, q3, q4⟩ | ⟨hbf, hq⟩
  · have HBF := Lib.hid hbf
    rw [hbf] at hl
    simp only [if_true] at hl
    clear hbf FC
    go_wp2_with fail
    clear q1 q2 q3 q4
    refine (Ha.out _ K1.out).mono ?_
    rintro e w2 ⟨rfl, hk⟩
    have K2 := Lib.hid (KW1.out.trans0 hk)
    have dl1 : w2.cell? ⟨gl, 1, none⟩ = some (.pointer (some ⟨ba, 0, none⟩)) := (K1.out.trans0 hk).cellSome L1.out (by simp)
    have d22 : w2.cell? ⟨b, 2, none⟩ = some (.slice (some ⟨gl, 0, none⟩) 2 capl) := (K1.out.trans0 hk).cellSome C2.out (by simp)
    have doa : w2.cell? ⟨ba, 0, none⟩ = some (.string (bs (opOf a))) := (K1.out.trans0 hk).cellSome OA.out (by simp)
    clear hk d2' dl0' dl1' dof
    rcases AC.out with ⟨hba, q1, q2, q3⟩ | ⟨hba, hq⟩
    · have HBA := Lib.hid hba
      rw [hba] at hl
      simp only [Bool.false_eq_true, if_false, par, List.length_append, List.length_cons, List.length_nil] at hl
      have s1 : ¬ 9223372036854775807 < 1 + (bs (textE a)).size := by simp only [bs_size]; omega
      have s2 : ¬ 9223372036854775807 < 1 + (bs (textE a)).size + 1 := by simp only [bs_size]; omega
      have s3 : ¬ 9223372036854775807 < (bs (textE f)).size + 1 := by simp only [bs_size]; omega
      have s4 : ¬ 9223372036854775807 < (bs (textE f)).size + 1 + (1 + (bs (textE a)).size + 1) := by simp only [bs_size]; omega
      clear hba AC hl
      go_wp2
      go_ret
      refine ⟨congrArg (fun b => Ending.returned (.string b)) ?_, K2.out⟩
      apply ba_ext
      simp [ByteArray.data_append, Array.toList_append, bs_data, textE, HBF.out, HBA.out, par]
    · have HBA := Lib.hid hba
      rw [hba] at hl
      simp only [if_true, par] at hl
      have s3 : ¬ 9223372036854775807 < (bs (textE f)).size + 1 := by simp only [bs_size]; omega
      have s4 : ¬ 9223372036854775807 < (bs (textE f)).size + 1 + (bs (textE a)).size := by simp only [bs_size]; omega
      clear hba AC hl
      rcases hq with q1 | ⟨q1, q2⟩ | ⟨q1, q2, q3⟩
      all_goals
        go_wp2
        go_ret
        refine ⟨congrArg (fun b => Ending.returned (.string b)) ?_, K2.out⟩
        apply ba_ext
        simp [ByteArray.data_append, Array.toList_append, bs_data, textE, HBF.out, HBA.out]
  · have HBF := Lib.hid hbf
    rw [hbf] at hl
    simp only [Bool.false_eq_true, if_false, par, List.length_append, List.length_cons, List.length_nil] at hl
    have z1 : ¬ 9223372036854775807 < 1 + (bs (textE f)).size := by simp only [bs_size]; omega
    have z2 : ¬ 9223372036854775807 < 1 + (bs (textE f)).size + 1 := by simp only [bs_size]; omega
    clear hbf FC
    have hq4 := hq
    clear hq
    rcases hq4 with q1 | ⟨q1, q2⟩ | ⟨q1, q2, q3⟩ | ⟨q1, q2, q3, q4⟩
    all_goals
      go_wp2_with fail
      clear z1 z2
      try clear q1
      try clear q2
      try clear q3
      try clear q4
      refine (Ha.out _ K1.out).mono ?_
      rintro e w2 ⟨rfl, hk⟩
      have K2 := Lib.hid (KW1.out.trans0 hk)
      have dl1 : w2.cell? ⟨gl, 1, none⟩ = some (.pointer (some ⟨ba, 0, none⟩)) := (K1.out.trans0 hk).cellSome L1.out (by simp)
      have d22 : w2.cell? ⟨b, 2, none⟩ = some (.slice (some ⟨gl, 0, none⟩) 2 capl) := (K1.out.trans0 hk).cellSome C2.out (by simp)
      have doa : w2.cell? ⟨ba, 0, none⟩ = some (.string (bs (opOf a))) := (K1.out.trans0 hk).cellSome OA.out (by simp)
      clear hk d2' dl0' dl1' dof
      rcases AC.out with ⟨hba, q1, q2, q3⟩ | ⟨hba, hq⟩
      · have HBA := Lib.hid hba
        rw [hba] at hl
        simp only [Bool.false_eq_true, if_false, List.length_append, List.length_cons, List.length_nil] at hl
        have s1 : ¬ 9223372036854775807 < 1 + (bs (textE a)).size := by simp only [bs_size]; omega
        have s2 : ¬ 9223372036854775807 < 1 + (bs (textE a)).size + 1 := by simp only [bs_size]; omega
        have s3 : ¬ 9223372036854775807 < 1 + (bs (textE f)).size + 1 + 1 := by simp only [bs_size]; omega
        have s4 : ¬ 9223372036854775807 < 1 + (bs (textE f)).size + 1 + 1 + (1 + (bs (textE a)).size + 1) := by simp only [bs_size]; omega
        clear hba AC hl
        go_wp2
        go_ret
        refine ⟨congrArg (fun b => Ending.returned (.string b)) ?_, K2.out⟩
        apply ba_ext
        simp [ByteArray.data_append, Array.toList_append, bs_data, textE, HBF.out, HBA.out, par]
      · have HBA := Lib.hid hba
        rw [hba] at hl
        simp only [if_true] at hl
        have s3 : ¬ 9223372036854775807 < 1 + (bs (textE f)).size + 1 + 1 := by simp only [bs_size]; omega
        have s4 : ¬ 9223372036854775807 < 1 + (bs (textE f)).size + 1 + 1 + (bs (textE a)).size := by simp only [bs_size]; omega
        clear hba AC hl
        rcases hq with q1 | ⟨q1, q2⟩ | ⟨q1, q2, q3⟩
        all_goals
          go_wp2
          go_ret
          refine ⟨congrArg (fun b => Ending.returned (.string b)) ?_, K2.out⟩
          apply ba_ext
          simp [ByteArray.data_append, Array.toList_append, bs_data, textE, HBF.out, HBA.out, par]
end Go.Proofs.YtpbplpnifjbkoaaDoor
