/-
  ast.Below and ast.depth, by contracts.
-/
import Derived.Test.YtpbplpnifjbkoaaDoorTxt
import Derived.Test.YtpbplpnifjbkoaaDoorPaRec
import Derived.Test.YtpbplpnifjbkoaaDoorTa
import Derived.Deep.QuietTactic
import Derived.BigQuiet
import Derived.BigRegion
import Derived.RegionTactic
namespace Go.Proofs.YtpbplpnifjbkoaaDoor
open Go.RowKit

/-- The expressions right below one. -/
def kids : Exp → List Exp
  | .lam _ _ b => [b]
  | .app _ f a => [f, a]
  | .pair _ f a => [f, a]
  | .letin _ _ f a => [f, a]
  | .cond _ c f a => [c, f, a]
  | .recr _ g => gBodies g ++ [gFor g]
  | _ => []

def AllAt (w : World) (lo hi : Nat) : List Exp → List Value → Prop
  | [], vs => vs = []
  | a :: r, vs => ∃ va vs', vs = va :: vs' ∧ ExprAt w lo hi a [] [] va ∧ AllAt w lo hi r vs'

theorem AllAt.keep {w w' : World} {lo hi : Nat} (hk : ∀ b, lo ≤ b → b < hi → w'.heap[b]? = w.heap[b]?) {es : List Exp} {vs : List Value} (h : AllAt w lo hi es vs) : AllAt w' lo hi es vs := by
  induction es generalizing vs with
  | nil => exact h
  | cons a r ih =>
    obtain ⟨va, vs', rfl, h1, h2⟩ := h
    exact ⟨va, vs', rfl, ExprAt.keep hk _ _ _ _ h1, ih h2⟩
theorem AllAt.length {w : World} {lo hi : Nat} {es : List Exp} {vs : List Value} (h : AllAt w lo hi es vs) : vs.length = es.length := by
  induction es generalizing vs with
  | nil => rw [show vs = [] from h]; rfl
  | cons a r ih =>
    obtain ⟨va, vs', rfl, h1, h2⟩ := h
    simp [ih h2]
theorem AllAt.get {w : World} {lo hi : Nat} {es : List Exp} {vs : List Value} (h : AllAt w lo hi es vs) (j : Nat) (hj : j < es.length) : ∃ v, vs[j]? = some v ∧ ExprAt w lo hi es[j] [] [] v := by
  induction es generalizing vs j with
  | nil => simp at hj
  | cons a r ih =>
    obtain ⟨va, vs', rfl, h1, h2⟩ := h
    cases j with
    | zero => exact ⟨va, rfl, h1⟩
    | succ j => simpa using ih h2 j (by simpa using hj)
theorem AllAt.snoc {w : World} {lo hi : Nat} {es : List Exp} {vs : List Value} (h : AllAt w lo hi es vs) {b : Exp} {v : Value} (hb : ExprAt w lo hi b [] [] v) : AllAt w lo hi (es ++ [b]) (vs ++ [v]) := by
  induction es generalizing vs with
  | nil => rw [show vs = [] from h]; exact ⟨v, [], rfl, hb, rfl⟩
  | cons a r ih =>
    obtain ⟨va, vs', rfl, h1, h2⟩ := h
    exact ⟨va, vs' ++ [v], rfl, h1, ih h2⟩
/-- A group's bodies and what it is for. -/
theorem group_at {w : World} {lo hi : Nat} (g : Exp) (hw : wfE true g = true) : ∀ ns vs v, ExprAt w lo hi g ns vs v → AllAt w lo hi (gBodies g) vs ∧ ExprAt w lo hi (gFor g) [] [] v ∧ ns = gNames g := by
  induction g with
  | bnd x a g _ ih =>
    rintro ns vs v ⟨ns', va, vs', rfl, rfl, h1, h2⟩
    simp only [wfE, Bool.and_eq_true] at hw
    obtain ⟨i1, i2, i3⟩ := ih hw.2 _ _ _ h2
    exact ⟨⟨va, vs', rfl, h1, i1⟩, i2, by rw [i3]; rfl⟩
  | fin b _ =>
    rintro ns vs v ⟨rfl, rfl, h⟩
    exact ⟨rfl, h, rfl⟩
  | name _ _ => simp [wfE] at hw
  | num _ _ => simp [wfE] at hw
  | lam _ _ _ _ => simp [wfE] at hw
  | app _ _ _ _ _ => simp [wfE] at hw
  | pair _ _ _ _ _ => simp [wfE] at hw
  | letin _ _ _ _ _ _ => simp [wfE] at hw
  | recr _ _ _ => simp [wfE] at hw
  | cond _ _ _ _ _ _ _ => simp [wfE] at hw

/-- What Below hands back. -/
def BelowPost (w : World) (lo hi : Nat) (es : List Exp) (e : Ending) (w' : World) : Prop :=
  ∃ sv vs, e = .returned sv ∧ w'.ownsRow w.heap.size 110 1 sv vs.length vs ∧ AllAt w lo hi es vs ∧ Keeps [] w w'


theorem ExprAt.ifp {w : World} {lo hi : Nat} {x : Exp} {v : Value} (h : ExprAt w lo hi x [] [] v) (hw : wfE false x = true) : ∃ ty bb : Nat, v = Go.Proofs.YtpbplpnifjbkoaaDoor.ifp ty bb := by
  cases x with
  | name p s => obtain ⟨_, _, b, _, _, rfl, _⟩ := h; exact ⟨_, _, rfl⟩
  | num p s => obtain ⟨_, _, b, _, _, rfl, _⟩ := h; exact ⟨_, _, rfl⟩
  | lam p x e => obtain ⟨_, _, b, _, _, _, rfl, _⟩ := h; exact ⟨_, _, rfl⟩
  | app p f a => obtain ⟨_, _, b, _, _, _, _, rfl, _⟩ := h; exact ⟨_, _, rfl⟩
  | pair p f a => obtain ⟨_, _, b, _, _, _, _, rfl, _⟩ := h; exact ⟨_, _, rfl⟩
  | letin p x f a => obtain ⟨_, _, b, _, _, _, _, rfl, _⟩ := h; exact ⟨_, _, rfl⟩
  | cond p c f a => obtain ⟨_, _, b, _, _, _, _, _, rfl, _⟩ := h; exact ⟨_, _, rfl⟩
  | recr p g => obtain ⟨_, _, b, _, _, _, _, _, _, _, rfl, _⟩ := h; exact ⟨_, _, rfl⟩
  | bnd x a g => simp [wfE] at hw
  | fin e => simp [wfE] at hw



set_option maxRecDepth 100000 in
set_option maxHeartbeats 4000000 in
theorem below_lam (w : World) (lo hi : Nat) (p : Nat) (x : Bytes) (b : Exp) (v : Value) (h : ExprAt w lo hi (.lam p x b) [] [] v) (hw : wfE false (.lam p x b) = true) : Calls Tryd.prog 89 #[v] w (BelowPost w lo hi [b]) := by
  obtain ⟨_, _, c, vb, h3, h4, rfl, h6, hb⟩ := h
  
  
  obtain ⟨tb, bb, rfl⟩ := hb.ifp hw
  have cb : w.cell? ⟨c, 2, none⟩ = some (ifp tb bb) := cell_of_block h6 2
  have Hb := Lib.hid hb
  clear h3 h4 h6 hb hw
  have qFun := taFunFun (.pointer (some ⟨c, 0, none⟩)) 110 w
  go_enter Tryd.func89, Tryd.ntmps89
  go_wp2_with fail
  
  
  all_goals
    go_ret
    refine ⟨_, [ifp tb bb], rfl, World.ownsRow_lit _ #[ifp tb bb] 1 (Nat.le_refl _) (by decide) rfl, ⟨_, _, rfl, Hb.out, rfl⟩, ?_⟩
    exact (Keeps.refl [] w).alloc _

set_option maxRecDepth 100000 in
set_option maxHeartbeats 4000000 in
theorem below_app (w : World) (lo hi : Nat) (p : Nat) (f a : Exp) (v : Value) (h : ExprAt w lo hi (.app p f a) [] [] v) (hw : wfE false (.app p f a) = true) : Calls Tryd.prog 89 #[v] w (BelowPost w lo hi [f, a]) := by
  obtain ⟨_, _, c, vf, va, h3, h4, rfl, h6, hf, ha⟩ := h
  simp only [wfE, Bool.and_eq_true] at hw
  obtain ⟨wf, wa⟩ := hw
  obtain ⟨tf, bf, rfl⟩ := hf.ifp wf
  obtain ⟨ta, ba, rfl⟩ := ha.ifp wa
  have cf : w.cell? ⟨c, 1, none⟩ = some (ifp tf bf) := cell_of_block h6 1
  have ca : w.cell? ⟨c, 2, none⟩ = some (ifp ta ba) := cell_of_block h6 2
  have Hf := Lib.hid hf
  have Ha := Lib.hid ha
  clear h3 h4 h6 hf ha wf wa
  have qFun := taAppFun (.pointer (some ⟨c, 0, none⟩)) 110 w
  have qApp := taAppApp (.pointer (some ⟨c, 0, none⟩)) 110 w
  go_enter Tryd.func89, Tryd.ntmps89
  go_wp2_with fail
  go_region
  all_goals go_wp2
  all_goals
    go_ret
    refine ⟨_, [ifp tf bf, ifp ta ba], rfl, World.ownsRow_lit _ #[ifp tf bf, ifp ta ba] 2 (Nat.le_refl _) (by decide) rfl, ⟨_, _, rfl, Hf.out, _, _, rfl, Ha.out, rfl⟩, ?_⟩
    exact (Keeps.refl [] w).drew.alloc _

set_option maxRecDepth 100000 in
set_option maxHeartbeats 4000000 in
theorem below_pair (w : World) (lo hi : Nat) (p : Nat) (f a : Exp) (v : Value) (h : ExprAt w lo hi (.pair p f a) [] [] v) (hw : wfE false (.pair p f a) = true) : Calls Tryd.prog 89 #[v] w (BelowPost w lo hi [f, a]) := by
  obtain ⟨_, _, c, vf, va, h3, h4, rfl, h6, hf, ha⟩ := h
  simp only [wfE, Bool.and_eq_true] at hw
  obtain ⟨wf, wa⟩ := hw
  obtain ⟨tf, bf, rfl⟩ := hf.ifp wf
  obtain ⟨ta, ba, rfl⟩ := ha.ifp wa
  have cf : w.cell? ⟨c, 1, none⟩ = some (ifp tf bf) := cell_of_block h6 1
  have ca : w.cell? ⟨c, 2, none⟩ = some (ifp ta ba) := cell_of_block h6 2
  have Hf := Lib.hid hf
  have Ha := Lib.hid ha
  clear h3 h4 h6 hf ha wf wa
  have qFun := taPairFun (.pointer (some ⟨c, 0, none⟩)) 110 w
  have qApp := taPairApp (.pointer (some ⟨c, 0, none⟩)) 110 w
  have qPair := taPairPair (.pointer (some ⟨c, 0, none⟩)) 110 w
  go_enter Tryd.func89, Tryd.ntmps89
  go_wp2_with fail
  go_region
  all_goals go_wp2
  all_goals
    go_ret
    refine ⟨_, [ifp tf bf, ifp ta ba], rfl, World.ownsRow_lit _ #[ifp tf bf, ifp ta ba] 2 (Nat.le_refl _) (by decide) rfl, ⟨_, _, rfl, Hf.out, _, _, rfl, Ha.out, rfl⟩, ?_⟩
    exact (Keeps.refl [] w).drew.alloc _

set_option maxRecDepth 100000 in
set_option maxHeartbeats 4000000 in
theorem below_letin (w : World) (lo hi : Nat) (p : Nat) (x : Bytes) (f a : Exp) (v : Value) (h : ExprAt w lo hi (.letin p x f a) [] [] v) (hw : wfE false (.letin p x f a) = true) : Calls Tryd.prog 89 #[v] w (BelowPost w lo hi [f, a]) := by
  obtain ⟨_, _, c, vf, va, h3, h4, rfl, h6, hf, ha⟩ := h
  simp only [wfE, Bool.and_eq_true] at hw
  obtain ⟨wf, wa⟩ := hw
  obtain ⟨tf, bf, rfl⟩ := hf.ifp wf
  obtain ⟨ta, ba, rfl⟩ := ha.ifp wa
  have cf : w.cell? ⟨c, 2, none⟩ = some (ifp tf bf) := cell_of_block h6 2
  have ca : w.cell? ⟨c, 3, none⟩ = some (ifp ta ba) := cell_of_block h6 3
  have Hf := Lib.hid hf
  have Ha := Lib.hid ha
  clear h3 h4 h6 hf ha wf wa
  have qFun := taLetFun (.pointer (some ⟨c, 0, none⟩)) 110 w
  have qApp := taLetApp (.pointer (some ⟨c, 0, none⟩)) 110 w
  have qPair := taLetPair (.pointer (some ⟨c, 0, none⟩)) 110 w
  have qLet := taLetLet (.pointer (some ⟨c, 0, none⟩)) 110 w
  go_enter Tryd.func89, Tryd.ntmps89
  go_wp2_with fail
  go_region
  all_goals go_wp2
  all_goals
    go_ret
    refine ⟨_, [ifp tf bf, ifp ta ba], rfl, World.ownsRow_lit _ #[ifp tf bf, ifp ta ba] 2 (Nat.le_refl _) (by decide) rfl, ⟨_, _, rfl, Hf.out, _, _, rfl, Ha.out, rfl⟩, ?_⟩
    exact (Keeps.refl [] w).drew.alloc _

set_option maxRecDepth 100000 in
set_option maxHeartbeats 4000000 in
theorem below_cond (w : World) (lo hi : Nat) (p : Nat) (d f a : Exp) (v : Value) (h : ExprAt w lo hi (.cond p d f a) [] [] v) (hw : wfE false (.cond p d f a) = true) : Calls Tryd.prog 89 #[v] w (BelowPost w lo hi [d, f, a]) := by
  obtain ⟨_, _, c, vd, vf, va, h3, h4, rfl, h6, hd, hf, ha⟩ := h
  simp only [wfE, Bool.and_eq_true] at hw
  obtain ⟨⟨wd, wf⟩, wa⟩ := hw
  obtain ⟨td, bd, rfl⟩ := hd.ifp wd
  obtain ⟨tf, bf, rfl⟩ := hf.ifp wf
  obtain ⟨ta, ba, rfl⟩ := ha.ifp wa
  have cd : w.cell? ⟨c, 1, none⟩ = some (ifp td bd) := cell_of_block h6 1
  have cf : w.cell? ⟨c, 2, none⟩ = some (ifp tf bf) := cell_of_block h6 2
  have ca : w.cell? ⟨c, 3, none⟩ = some (ifp ta ba) := cell_of_block h6 3
  have Hd := Lib.hid hd
  have Hf := Lib.hid hf
  have Ha := Lib.hid ha
  clear h3 h4 h6 hd hf ha wd wf wa
  have qFun := taIfFun (.pointer (some ⟨c, 0, none⟩)) 110 w
  have qApp := taIfApp (.pointer (some ⟨c, 0, none⟩)) 110 w
  have qPair := taIfPair (.pointer (some ⟨c, 0, none⟩)) 110 w
  have qLet := taIfLet (.pointer (some ⟨c, 0, none⟩)) 110 w
  have qRec := taIfRec (.pointer (some ⟨c, 0, none⟩)) 110 w
  have qIf := taIfIf (.pointer (some ⟨c, 0, none⟩)) 110 w
  go_enter Tryd.func89, Tryd.ntmps89
  go_wp2_with fail
  go_region
  all_goals go_wp2
  all_goals
    go_ret
    refine ⟨_, [ifp td bd, ifp tf bf, ifp ta ba], rfl, World.ownsRow_lit _ #[ifp td bd, ifp tf bf, ifp ta ba] 3 (Nat.le_refl _) (by decide) rfl, ⟨_, _, rfl, Hd.out, _, _, rfl, Hf.out, _, _, rfl, Ha.out, rfl⟩, ?_⟩
    exact (Keeps.refl [] w).drew.alloc _

end Go.Proofs.YtpbplpnifjbkoaaDoor
