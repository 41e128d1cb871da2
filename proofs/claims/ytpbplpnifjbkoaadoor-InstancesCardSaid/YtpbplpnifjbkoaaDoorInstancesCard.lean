/-
  Any two texts: by which types for its variables the one type becomes the other, or what is wrong, is as the document says: schemeslaw.Instances returns true. Conditions: the listed package-level variables hold what the program's text lays (tied).
-/
import Derived.Test.YtpbplpnifjbkoaaDoorLaid
import Derived.Test.YtpbplpnifjbkoaaDoorIlaw
import Derived.Test.YtpbplpnifjbkoaaDoorTie
import Derived.Test.YtpbplpnifjbkoaaDoorCards
import Derived.SevenTiedAt
namespace Go.Proofs.YtpbplpnifjbkoaaDoor
open Go.ChangeShapes Go.WideShapes Go.ChangeAt Go.RowKit
open Go.ChangeMaps (setBlock shut_map_nil open_string shut_string keptBut_setBlock frozen?_setBlock heap_setBlock_same)

theorem instances_law {a : Nat → Addr} {B : Nat} (w : World) (hG : Gl a B w) (s t : ByteArray) : Calls Tryd.prog 6 #[.string s, .string t] w fun e w' => e = .returned (.bool true) ∧ Keeps [] w w' := by
  cases hr : readTyp s.data.toList with
  | error f => exact instances_bad1 w hG s t f hr
  | ok q =>
    cases hr2 : readTyp t.data.toList with
    | error f => exact instances_bad2 w hG s t q f hr hr2
    | ok q2 =>
      cases hm : matchT q.1 q2.1 [] with
      | none => exact instances_no w hG s t q q2 hr hr2 hm
      | some l => exact instances_yes w hG s t q q2 hr hr2 l hm

theorem instances_met (os : Os) (args : Array Value) : laidMetH Tryd.prog Rows.instancesRow.laid ((World.doorLaid Tryd.prog 183 os).forCall (fun _ _ => 0) ⟨#[], args, []⟩).memory :=
  laidMetH_of_parts3 (fuel := 8) (laidMet_of_run' 8 (by kernel_rfl) (by kernel_rfl)) (by kernel_rfl) (by kernel_rfl)

theorem instances_gl {W : World} (h : laidMetH Tryd.prog Rows.instancesRow.laid W) : ∃ a, Gl a W.heap.size W := by
  have h' : laidMet Tryd.prog errs8 W ∧ handlesMet Tryd.prog [("errors.errorType", Rows.laid_errors_errorType)] W := h
  exact gl_of_laid h'.1 h'.2

set_option maxRecDepth 100000 in
theorem instances_lifted (os : Os) (started : os.Started) (H : Type) (enc : TypeId × Value → H) :
    ReturnsInHanded {} Tryd.checked os 6 .any (fun w args => (Rows.instancesSpec.pre enc Tryd.prog Tryd.f6 [] false w args ∧ laidMetH Tryd.prog Rows.instancesRow.laid w) ∧ sizedMet enc Tryd.prog Tryd.f6 (OpenSpec.ofChange Rows.instancesSpec) false w args)
      (Rows.instancesSpec.post enc Tryd.prog Tryd.f6 false true false false) := by
  refine returnsInHanded_of_change_and (C := Tryd.checked) (X := fun w _ => laidMetH Tryd.prog Rows.instancesRow.laid w) (fun _ _ _ hh h => h.of_heap hh) own started (by kernel_rfl) Tryd.func6
    (ChangeSpec.witness_shaped (enc := enc) (C := Tryd.checked) (os := os) (X := fun w _ => laidMetH Tryd.prog Rows.instancesRow.laid w) false (World.doorLaid Tryd.prog 183 os) #[.string ⟨#[]⟩, .string ⟨#[]⟩] 8 rfl (World.shaped_of_RefB (by kernel_rfl) (by kernel_rfl)) (by kernel_rfl) (by kernel_rfl) (by kernel_rfl) (instances_met os _)) ?_
  intro W base args ds gs before hval0 hW _ _ hL _
  have hW' := hW
  obtain ⟨p, q, hA0, hV, rfl, hfz, hnd⟩ := hW
  have hA : DataW.TrodAll enc Tryd.prog W 0 (fun _ => true) true Tryd.f6.params.toList args.toList ds p := hA0
  rw [Tryd.params6] at hA
  obtain ⟨v0, v1, d0, d1, p0, p1, rfl, rfl, rfl, h0, h1⟩ := trodAll_two hA
  obtain ⟨s, rfl, rfl, rfl, hs⟩ := open_string Tryd.underlying9 (hval0 0 9 v0 rfl rfl) h0
  obtain ⟨t, rfl, rfl, rfl, ht⟩ := open_string Tryd.underlying9 (hval0 1 9 v1 rfl rfl) h1
  obtain ⟨rfl, rfl⟩ := trodVars_none hV
  obtain ⟨a, hG⟩ := instances_gl hL
  simp only [List.append_nil] at hW'
  refine (instances_law W hG s t).mono fun e W' ⟨he, hk⟩ => ?_
  subst he
  have hw : Below W.heap.size W W' := hk.below (Nat.le_refl _) (by simp)
  refine ⟨_, rfl, _, _, _, [], [], [], hW', ?_, ?_, ?_, hw.frame _, fun h => by cases h⟩
  · exact trodAll_mk1 (shut_bool Tryd.underlying4 true)
  · exact trodAll_mk2 (shut_string Tryd.underlying9 hs) (shut_string Tryd.underlying9 ht)
  · rfl

theorem instances_row : Rows.InstancesSaid :=
  OpenClaim.holds_of_wide 6 Tryd.f6 rfl rfl rfl rfl rfl rfl rfl ⟨rfl, rfl, rfl, rfl, rfl⟩ rfl rfl rfl rfl rfl (by kernel_rfl) Tryd.func6 (by kernel_rfl)
    (of_decide_eq_true (by kernel_rfl)) (by unfold Func.isWrapper; first | (rw [if_pos (by decide +kernel)]; kernel_rfl) | (rw [if_neg (by decide +kernel)]; exact ⟨rfl, rfl⟩))
    (fun os started H enc _ => instances_lifted os started H enc)

theorem instances_holds : Rows.InstancesCardSaid :=
  Claim7.holds_tied_plain_at .later [] _ _ _ _
    instances_row (fun _ h => by cases h) (by kernel_rfl) (fun _ h => by cases h) instances_row_tie rfl ⟨rfl, rfl⟩ (by kernel_rfl) rfl
    (fun f fn hf hfn => by
      obtain rfl : f = 6 := Option.some.inj ((show Tryd.prog.funcNamed "schemes/schemeslaw.Instances" = some 6 by kernel_rfl).symm.trans hf) |>.symm
      obtain rfl : fn = Tryd.f6 := (Option.some.inj (Tryd.func6.symm.trans hfn)).symm
      exact ⟨by kernel_rfl, fun j t ht => by
        rw [Tryd.params6] at ht
        rcases j with _ | _ | j
        · simp at ht
          subst ht
          kernel_rfl
        · simp at ht
          subst ht
          kernel_rfl
        · simp at ht⟩)
    (by kernel_rfl)
#print axioms instances_holds
end Go.Proofs.YtpbplpnifjbkoaaDoor
