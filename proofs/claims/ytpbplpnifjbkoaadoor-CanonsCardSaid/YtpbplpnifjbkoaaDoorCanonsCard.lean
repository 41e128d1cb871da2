/-
  Every text: the program's one text of a type, or what is wrong with it, is the document's: schemeslaw.Canons returns true. Conditions: the listed package-level variables hold what the program's text lays (tied).
-/
import Derived.Test.YtpbplpnifjbkoaaDoorLaid
import Derived.Test.YtpbplpnifjbkoaaDoorCanw
import Derived.Test.YtpbplpnifjbkoaaDoorTie
import Derived.Test.YtpbplpnifjbkoaaDoorCards
import Derived.SevenTiedAt
namespace Go.Proofs.YtpbplpnifjbkoaaDoor
open Go.ChangeShapes Go.WideShapes Go.ChangeAt Go.RowKit
open Go.ChangeMaps (setBlock shut_map_nil open_string shut_string keptBut_setBlock frozen?_setBlock heap_setBlock_same)

theorem canons_met (os : Os) (args : Array Value) : laidMetH Tryd.prog Rows.canonsRow.laid ((World.doorLaid Tryd.prog 183 os).forCall (fun _ _ => 0) ⟨#[], args, []⟩).memory :=
  laidMetH_of_parts3 (fuel := 8) (laidMet_of_run' 8 (by kernel_rfl) (by kernel_rfl)) (by kernel_rfl) (by kernel_rfl)

theorem canons_gl {W : World} (h : laidMetH Tryd.prog Rows.canonsRow.laid W) : ∃ a, Gl a W.heap.size W := by
  have h' : laidMet Tryd.prog (("math/bits.deBruijn32tab", Rows.laid_math_bits_deBruijn32tab) :: ("math/bits.deBruijn64tab", Rows.laid_math_bits_deBruijn64tab) :: ("internal/strconv.uint64pow10", Rows.laid_internal_strconv_uint64pow10) :: errs8) W ∧ handlesMet Tryd.prog [("errors.errorType", Rows.laid_errors_errorType)] W := h
  exact gl_of_laid h'.1.tail.tail.tail h'.2

set_option maxRecDepth 100000 in
theorem canons_lifted (os : Os) (started : os.Started) (H : Type) (enc : TypeId × Value → H) :
    ReturnsInHanded {} Tryd.checked os 5 .any (fun w args => (Rows.canonsSpec.pre enc Tryd.prog Tryd.f5 [] false w args ∧ laidMetH Tryd.prog Rows.canonsRow.laid w) ∧ sizedMet enc Tryd.prog Tryd.f5 (OpenSpec.ofChange Rows.canonsSpec) false w args)
      (Rows.canonsSpec.post enc Tryd.prog Tryd.f5 false true false false) := by
  refine returnsInHanded_of_change_and (C := Tryd.checked) (X := fun w _ => laidMetH Tryd.prog Rows.canonsRow.laid w) (fun _ _ _ hh h => h.of_heap hh) own started (by kernel_rfl) Tryd.func5
    (ChangeSpec.witness_shaped (enc := enc) (C := Tryd.checked) (os := os) (X := fun w _ => laidMetH Tryd.prog Rows.canonsRow.laid w) false (World.doorLaid Tryd.prog 183 os) #[.string ⟨#[]⟩] 8 rfl (World.shaped_of_RefB (by kernel_rfl) (by kernel_rfl)) (by kernel_rfl) (by kernel_rfl) (by kernel_rfl) (canons_met os _)) ?_
  intro W base args ds gs before hval0 hW _ _ hL _
  have hW' := hW
  obtain ⟨p, q, hA0, hV, rfl, hfz, hnd⟩ := hW
  have hA : DataW.TrodAll enc Tryd.prog W 0 (fun _ => true) true Tryd.f5.params.toList args.toList ds p := hA0
  rw [Tryd.params5] at hA
  obtain ⟨v0, d0, rfl, rfl, h0⟩ := trodAll_one hA
  obtain ⟨s, rfl, rfl, rfl, hs⟩ := open_string Tryd.underlying9 (hval0 0 9 v0 rfl rfl) h0
  obtain ⟨rfl, rfl⟩ := trodVars_none hV
  obtain ⟨a, hG⟩ := canons_gl hL
  simp only [List.append_nil] at hW'
  refine (canons_law W hG s).mono fun e W' ⟨he, hk⟩ => ?_
  subst he
  have hw : Below W.heap.size W W' := hk.below (Nat.le_refl _) (by simp)
  refine ⟨_, rfl, _, _, _, [], [], [], hW', ?_, ?_, ?_, hw.frame _, fun h => by cases h⟩
  · exact trodAll_mk1 (shut_bool Tryd.underlying4 true)
  · exact trodAll_mk1 (shut_string Tryd.underlying9 hs)
  · rfl

theorem canons_row : Rows.CanonsSaid :=
  OpenClaim.holds_of_wide 5 Tryd.f5 rfl rfl rfl rfl rfl rfl rfl ⟨rfl, rfl, rfl, rfl, rfl⟩ rfl rfl rfl rfl rfl (by kernel_rfl) Tryd.func5 (by kernel_rfl)
    (of_decide_eq_true (by kernel_rfl)) (by unfold Func.isWrapper; first | (rw [if_pos (by decide +kernel)]; kernel_rfl) | (rw [if_neg (by decide +kernel)]; exact ⟨rfl, rfl⟩))
    (fun os started H enc _ => canons_lifted os started H enc)

theorem canons_holds : Rows.CanonsCardSaid :=
  Claim7.holds_tied_plain_at .later [] _ _ _ _
    canons_row (fun _ h => by cases h) (by kernel_rfl) (fun _ h => by cases h) canons_row_tie rfl ⟨rfl, rfl⟩ (by kernel_rfl) rfl
    (fun f fn hf hfn => by
      obtain rfl : f = 5 := Option.some.inj ((show Tryd.prog.funcNamed "schemes/schemeslaw.Canons" = some 5 by kernel_rfl).symm.trans hf) |>.symm
      obtain rfl : fn = Tryd.f5 := (Option.some.inj (Tryd.func5.symm.trans hfn)).symm
      exact ⟨by kernel_rfl, fun j t ht => by
        rw [Tryd.params5] at ht
        rcases j with _ | j
        · simp at ht
          subst ht
          kernel_rfl
        · simp at ht⟩)
    (by kernel_rfl)
#print axioms canons_holds
end Go.Proofs.YtpbplpnifjbkoaaDoor
