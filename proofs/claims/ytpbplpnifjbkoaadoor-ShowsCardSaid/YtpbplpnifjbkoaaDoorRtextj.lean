/-
  The document's Text, whole.
-/
import Derived.Test.YtpbplpnifjbkoaaDoorRtextb
namespace Go.Proofs.YtpbplpnifjbkoaaDoor
open Go.RowKit

theorem pairs_few (g : Exp) : (pairsG g).length ≤ esz g := by
  induction g with
  | bnd x a g iha ihg => simp only [pairsG, esz, List.length_cons]; have : ∀ e, 1 ≤ esz e := (by intro e; cases e <;> simp [esz]); have := this a; omega
  | _ => simp [pairsG]
theorem wf_pairs (g : Exp) (hw : wfE true g = true) : ∀ e ∈ (pairsG g).map (·.2) ++ [gFor g], wfE false e = true := by
  intro e he
  rw [← group_kids g hw] at he
  exact (rkids_group_small g hw e he).2

theorem mem_bndR {l : List (Bytes × Exp)} {q : Bytes × Exp} (hq : q ∈ l) : (textE q.2).length ≤ (bndR l).length := by
  induction l with
  | nil => cases hq
  | cons a r ih =>
    cases r with
    | nil => simp at hq; subst hq; simp [bndR, bItem]; omega
    | cons b r =>
      rcases List.mem_cons.1 hq with rfl | hq
      · simp [bndR, bItem]; omega
      · have := ih hq; simp only [bndR, List.length_append] at this ⊢; omega

theorem rtext_any (m : Nat) : ∀ x, esz x ≤ m → m ≤ 65536 → wfE false x = true → (textE x).length ≤ 200000 → ∀ (w0 : World) (lo hi : Nat) (v : Value), RExpAt w0 lo hi x [] [] v → TextIH w0 x v := by
  induction m with
  | zero => intro x hx; exfalso; revert hx; cases x <;> simp [esz]
  | succ m ih =>
    intro x hx hm hw hl w0 lo hi v h
    cases x with
    | name p s => exact rtext_name w0 lo hi p s v h hw hl
    | num p s => exact rtext_num w0 lo hi p s v h hw hl
    | lam p x a =>
      simp only [esz] at hx
      have hl' := hl
      simp only [textE, List.length_append] at hl'
      exact rtext_lam w0 lo hi p x a v h hw hl (fun v hv => ih a (by omega) (by omega) (by simpa [wfE] using hw) (by omega) w0 lo hi v hv)
    | app p f a =>
      simp only [esz] at hx
      have hl' := hl
      simp only [textE, List.length_append] at hl'
      have hw' := hw
      simp only [wfE, Bool.and_eq_true] at hw'
      have h1 : (textE f).length ≤ (if bareFun f = true then textE f else par (textE f)).length := by split <;> simp [par]; omega
      have h2 : (textE a).length ≤ (if bareArg a = true then textE a else par (textE a)).length := by split <;> simp [par]; omega
      exact rtext_app w0 lo hi p f a v h hw hl (fun v hv => ih f (by omega) (by omega) hw'.1 (by omega) w0 lo hi v hv) (fun v hv => ih a (by omega) (by omega) hw'.2 (by omega) w0 lo hi v hv)
    | pair p f a =>
      simp only [esz] at hx
      have hl' := hl
      simp only [textE, List.length_append] at hl'
      have hw' := hw
      simp only [wfE, Bool.and_eq_true] at hw'
      exact rtext_pair w0 lo hi p f a v h hw hl (fun v hv => ih f (by omega) (by omega) hw'.1 (by omega) w0 lo hi v hv) (fun v hv => ih a (by omega) (by omega) hw'.2 (by omega) w0 lo hi v hv)
    | cond p c f a =>
      simp only [esz] at hx
      have hl' := hl
      simp only [textE, List.length_append] at hl'
      have hw' := hw
      simp only [wfE, Bool.and_eq_true] at hw'
      exact rtext_cond w0 lo hi p c f a v h hw hl (fun v hv => ih c (by omega) (by omega) hw'.1.1 (by omega) w0 lo hi v hv) (fun v hv => ih f (by omega) (by omega) hw'.1.2 (by omega) w0 lo hi v hv) (fun v hv => ih a (by omega) (by omega) hw'.2 (by omega) w0 lo hi v hv)
    | letin p x f a =>
      simp only [esz] at hx
      have hl' := hl
      simp only [textE, List.length_append] at hl'
      have hw' := hw
      simp only [wfE, Bool.and_eq_true] at hw'
      obtain ⟨_, _, vf, va, hn, hf, ha⟩ := h
      have hih : ∀ e ∈ [(x, f)].map (·.2) ++ [a], ∀ v, RExpAt w0 lo hi e [] [] v → TextIH w0 e v := by
        intro e he v hv
        simp at he
        rcases he with rfl | rfl
        · exact ih _ (by omega) (by omega) hw'.1 (by omega) w0 lo hi v hv
        · exact ih _ (by omega) (by omega) hw'.2 (by omega) w0 lo hi v hv
      have hwf : ∀ e ∈ [(x, f)].map (·.2) ++ [a], wfE false e = true := by
        intro e he
        simp at he
        rcases he with rfl | rfl
        · exact hw'.1
        · exact hw'.2
      have he : textE (.letin p x f a) = preB false ++ bndR [(x, f)] ++ [32, 105, 110, 32] ++ textE a := by simp [textE, preB, bndR, bItem]
      intro w hk
      rw [he] at hl ⊢
      exact rtext_bndL w0 lo hi [(x, f)] a v [vf, va] p hn ⟨vf, _, rfl, hf, va, _, rfl, ha, rfl⟩ hwf hih hl (by simp) w hk
    | recr p g =>
      simp only [esz] at hx
      have hw' := hw
      simp only [wfE, Bool.and_eq_true] at hw'
      obtain ⟨_, _, ns', vs', vf, hn, hg⟩ := h
      have hns := group_names g _ _ _ hw'.2 hg
      have hkg := rkids_group g _ _ _ hw'.2 hg
      rw [group_kids g hw'.2] at hkg
      have hwf := wf_pairs g hw'.2
      have he : textE (.recr p g) = preB true ++ bndR (pairsG g) ++ [32, 105, 110, 32] ++ textE (gFor g) := by
        rw [textE, rtext_grp g hw'.2 hw'.1]; simp [preB]
      rw [hns] at hn
      have hfew := pairs_few g
      intro w hk
      rw [he] at hl ⊢
      have hlen : ∀ e ∈ (pairsG g).map (·.2) ++ [gFor g], (textE e).length ≤ 200000 := by
        intro e hm
        simp only [List.length_append] at hl
        rcases List.mem_append.1 hm with h | h
        · obtain ⟨q, hq, rfl⟩ := List.mem_map.1 h
          have := mem_bndR hq
          omega
        · simp at h; subst h; omega
      exact rtext_bndR w0 lo hi (pairsG g) (gFor g) v _ p hn hkg hwf (fun e hm v hv => ih e (by have := (rkids_group_small g hw'.2 e (by rw [group_kids g hw'.2]; exact hm)).1; omega) (by omega) (hwf e hm) (hlen e hm) w0 lo hi v hv) hl (by omega) w hk
    | bnd x a g => simp [wfE] at hw
    | fin e => simp [wfE] at hw
end Go.Proofs.YtpbplpnifjbkoaaDoor
