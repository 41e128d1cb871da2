/-
  ast.Below and ast.depth, by contracts.
-/
import Derived.Test.YtpbplpnifjbkoabGreatDoorTxt
import Derived.Test.YtpbplpnifjbkoabGreatDoorPaRec
import Derived.Test.YtpbplpnifjbkoabGreatDoorTa
import Derived.Deep.QuietTactic
import Derived.BigQuiet
import Derived.BigRegion
import Derived.RegionTactic
import Derived.Deep.RegionLaw
import Derived.Deep.LoopGhost
namespace Go.Proofs.YtpbplpnifjbkoabGreatDoor
open Go.RowKit

/-- The expressions right below one. -/
def kids : Exp → List Exp
  | .lam _ _ b => [b]
  | .app _ f a => [f, a]
  | .pair _ f a => [f, a]
  | .letin _ _ f a => [f, a]
  | .cond _ c f a => [c, f, a]
  | .recr _ g => gBodies g ++ [gFor g]
  | _ => []

def AllAt (w : World) (lo hi : Nat) : List Exp → List Value → Prop
  | [], vs => vs = []
  | a :: r, vs => ∃ va vs', vs = va :: vs' ∧ ExprAt w lo hi a [] [] va ∧ AllAt w lo hi r vs'

theorem AllAt.keep {w w' : World} {lo hi : Nat} (hk : ∀ b, lo ≤ b → b < hi → w'.heap[b]? = w.heap[b]?) {es : List Exp} {vs : List Value} (h : AllAt w lo hi es vs) : AllAt w' lo hi es vs := by
  induction es generalizing vs with
  | nil => exact h
  | cons a r ih =>
    obtain ⟨va, vs', rfl, h1, h2⟩ := h
    exact ⟨va, vs', rfl, ExprAt.keep hk _ _ _ _ h1, ih h2⟩
theorem AllAt.length {w : World} {lo hi : Nat} {es : List Exp} {vs : List Value} (h : AllAt w lo hi es vs) : vs.length = es.length := by
  induction es generalizing vs with
  | nil => rw [show vs = [] from h]; rfl
  | cons a r ih =>
    obtain ⟨va, vs', rfl, h1, h2⟩ := h
    simp [ih h2]
theorem AllAt.get {w : World} {lo hi : Nat} {es : List Exp} {vs : List Value} (h : AllAt w lo hi es vs) (j : Nat) (hj : j < es.length) : ∃ v, vs[j]? = some v ∧ ExprAt w lo hi es[j] [] [] v := by
  induction es generalizing vs j with
  | nil => simp at hj
  | cons a r ih =>
    obtain ⟨va, vs', rfl, h1, h2⟩ := h
    cases j with
    | zero => exact ⟨va, rfl, h1⟩
    | succ j => simpa using ih h2 j (by simpa using hj)
theorem AllAt.snoc {w : World} {lo hi : Nat} {es : List Exp} {vs : List Value} (h : AllAt w lo hi es vs) {b : Exp} {v : Value} (hb : ExprAt w lo hi b [] [] v) : AllAt w lo hi (es ++ [b]) (vs ++ [v]) := by
  induction es generalizing vs with
  | nil => rw [show vs = [] from h]; exact ⟨v, [], rfl, hb, rfl⟩
  | cons a r ih =>
    obtain ⟨va, vs', rfl, h1, h2⟩ := h
    exact ⟨va, vs' ++ [v], rfl, h1, ih h2⟩
/-- A group's bodies and what it is for. -/
theorem group_at {w : World} {lo hi : Nat} (g : Exp) (hw : wfE true g = true) : ∀ ns vs v, ExprAt w lo hi g ns vs v → AllAt w lo hi (gBodies g) vs ∧ ExprAt w lo hi (gFor g) [] [] v ∧ ns = gNames g := by
  induction g with
  | bnd x a g _ ih =>
    rintro ns vs v ⟨ns', va, vs', rfl, rfl, h1, h2⟩
    simp only [wfE, Bool.and_eq_true] at hw
    obtain ⟨i1, i2, i3⟩ := ih hw.2 _ _ _ h2
    exact ⟨⟨va, vs', rfl, h1, i1⟩, i2, by rw [i3]; rfl⟩
  | fin b _ =>
    rintro ns vs v ⟨rfl, rfl, h⟩
    exact ⟨rfl, h, rfl⟩
  | name _ _ => simp [wfE] at hw
  | num _ _ => simp [wfE] at hw
  | lam _ _ _ _ => simp [wfE] at hw
  | app _ _ _ _ _ => simp [wfE] at hw
  | pair _ _ _ _ _ => simp [wfE] at hw
  | letin _ _ _ _ _ _ => simp [wfE] at hw
  | recr _ _ _ => simp [wfE] at hw
  | cond _ _ _ _ _ _ _ => simp [wfE] at hw

/-- What Below hands back. -/
def BelowPost (w : World) (lo hi : Nat) (es : List Exp) (e : Ending) (w' : World) : Prop :=
  ∃ sv vs, e = .returned sv ∧ w'.ownsRow w.heap.size 108 1 sv vs.length vs ∧ AllAt w lo hi es vs ∧ Keeps [] w w'


theorem ExprAt.ifp {w : World} {lo hi : Nat} {x : Exp} {v : Value} (h : ExprAt w lo hi x [] [] v) (hw : wfE false x = true) : ∃ ty bb : Nat, v = Go.Proofs.YtpbplpnifjbkoabGreatDoor.ifp ty bb := by
  cases x with
  | name p s => obtain ⟨_, _, b, _, _, rfl, _⟩ := h; exact ⟨_, _, rfl⟩
  | num p s => obtain ⟨_, _, b, _, _, rfl, _⟩ := h; exact ⟨_, _, rfl⟩
  | lam p x e => obtain ⟨_, _, b, _, _, _, rfl, _⟩ := h; exact ⟨_, _, rfl⟩
  | app p f a => obtain ⟨_, _, b, _, _, _, _, rfl, _⟩ := h; exact ⟨_, _, rfl⟩
  | pair p f a => obtain ⟨_, _, b, _, _, _, _, rfl, _⟩ := h; exact ⟨_, _, rfl⟩
  | letin p x f a => obtain ⟨_, _, b, _, _, _, _, rfl, _⟩ := h; exact ⟨_, _, rfl⟩
  | cond p c f a => obtain ⟨_, _, b, _, _, _, _, _, rfl, _⟩ := h; exact ⟨_, _, rfl⟩
  | recr p g => obtain ⟨_, _, b, _, _, _, _, _, _, _, rfl, _⟩ := h; exact ⟨_, _, rfl⟩
  | bnd x a g => simp [wfE] at hw
  | fin e => simp [wfE] at hw



set_option maxRecDepth 100000 in
set_option maxHeartbeats 4000000 in
theorem below_lam (w : World) (lo hi : Nat) (p : Nat) (x : Bytes) (b : Exp) (v : Value) (h : ExprAt w lo hi (.lam p x b) [] [] v) (hw : wfE false (.lam p x b) = true) : Calls Tryz.prog 95 #[v] w (BelowPost w lo hi [b]) := by
  obtain ⟨_, _, c, vb, h3, h4, rfl, h6, hb⟩ := h
  
  
  obtain ⟨tb, bb, rfl⟩ := hb.ifp hw
  have cb : w.cell? ⟨c, 2, none⟩ = some (ifp tb bb) := cell_of_block h6 2
  have Hb := Lib.hid hb
  clear h3 h4 h6 hb hw
  have qFun := taFunFun (.pointer (some ⟨c, 0, none⟩)) 108 w
  go_enter Tryz.func95, Tryz.ntmps95
  go_wp2_with fail
  
  
  all_goals
    go_ret
    refine ⟨_, [ifp tb bb], rfl, World.ownsRow_lit _ #[ifp tb bb] 1 (Nat.le_refl _) (by decide) rfl, ⟨_, _, rfl, Hb.out, rfl⟩, ?_⟩
    exact (Keeps.refl [] w).alloc _

set_option maxRecDepth 100000 in
set_option maxHeartbeats 4000000 in
theorem below_app (w : World) (lo hi : Nat) (p : Nat) (f a : Exp) (v : Value) (h : ExprAt w lo hi (.app p f a) [] [] v) (hw : wfE false (.app p f a) = true) : Calls Tryz.prog 95 #[v] w (BelowPost w lo hi [f, a]) := by
  obtain ⟨_, _, c, vf, va, h3, h4, rfl, h6, hf, ha⟩ := h
  simp only [wfE, Bool.and_eq_true] at hw
  obtain ⟨wf, wa⟩ := hw
  obtain ⟨tf, bf, rfl⟩ := hf.ifp wf
  obtain ⟨ta, ba, rfl⟩ := ha.ifp wa
  have cf : w.cell? ⟨c, 1, none⟩ = some (ifp tf bf) := cell_of_block h6 1
  have ca : w.cell? ⟨c, 2, none⟩ = some (ifp ta ba) := cell_of_block h6 2
  have Hf := Lib.hid hf
  have Ha := Lib.hid ha
  clear h3 h4 h6 hf ha wf wa
  have qFun := taAppFun (.pointer (some ⟨c, 0, none⟩)) 108 w
  have qApp := taAppApp (.pointer (some ⟨c, 0, none⟩)) 108 w
  go_enter Tryz.func95, Tryz.ntmps95
  go_wp2_with fail
  go_region
  all_goals go_wp2
  all_goals
    go_ret
    refine ⟨_, [ifp tf bf, ifp ta ba], rfl, World.ownsRow_lit _ #[ifp tf bf, ifp ta ba] 2 (Nat.le_refl _) (by decide) rfl, ⟨_, _, rfl, Hf.out, _, _, rfl, Ha.out, rfl⟩, ?_⟩
    exact (Keeps.refl [] w).drew.alloc _

set_option maxRecDepth 100000 in
set_option maxHeartbeats 4000000 in
theorem below_pair (w : World) (lo hi : Nat) (p : Nat) (f a : Exp) (v : Value) (h : ExprAt w lo hi (.pair p f a) [] [] v) (hw : wfE false (.pair p f a) = true) : Calls Tryz.prog 95 #[v] w (BelowPost w lo hi [f, a]) := by
  obtain ⟨_, _, c, vf, va, h3, h4, rfl, h6, hf, ha⟩ := h
  simp only [wfE, Bool.and_eq_true] at hw
  obtain ⟨wf, wa⟩ := hw
  obtain ⟨tf, bf, rfl⟩ := hf.ifp wf
  obtain ⟨ta, ba, rfl⟩ := ha.ifp wa
  have cf : w.cell? ⟨c, 1, none⟩ = some (ifp tf bf) := cell_of_block h6 1
  have ca : w.cell? ⟨c, 2, none⟩ = some (ifp ta ba) := cell_of_block h6 2
  have Hf := Lib.hid hf
  have Ha := Lib.hid ha
  clear h3 h4 h6 hf ha wf wa
  have qFun := taPairFun (.pointer (some ⟨c, 0, none⟩)) 108 w
  have qApp := taPairApp (.pointer (some ⟨c, 0, none⟩)) 108 w
  have qPair := taPairPair (.pointer (some ⟨c, 0, none⟩)) 108 w
  go_enter Tryz.func95, Tryz.ntmps95
  go_wp2_with fail
  go_region
  all_goals go_wp2
  all_goals
    go_ret
    refine ⟨_, [ifp tf bf, ifp ta ba], rfl, World.ownsRow_lit _ #[ifp tf bf, ifp ta ba] 2 (Nat.le_refl _) (by decide) rfl, ⟨_, _, rfl, Hf.out, _, _, rfl, Ha.out, rfl⟩, ?_⟩
    exact (Keeps.refl [] w).drew.alloc _

set_option maxRecDepth 100000 in
set_option maxHeartbeats 4000000 in
theorem below_letin (w : World) (lo hi : Nat) (p : Nat) (x : Bytes) (f a : Exp) (v : Value) (h : ExprAt w lo hi (.letin p x f a) [] [] v) (hw : wfE false (.letin p x f a) = true) : Calls Tryz.prog 95 #[v] w (BelowPost w lo hi [f, a]) := by
  obtain ⟨_, _, c, vf, va, h3, h4, rfl, h6, hf, ha⟩ := h
  simp only [wfE, Bool.and_eq_true] at hw
  obtain ⟨wf, wa⟩ := hw
  obtain ⟨tf, bf, rfl⟩ := hf.ifp wf
  obtain ⟨ta, ba, rfl⟩ := ha.ifp wa
  have cf : w.cell? ⟨c, 2, none⟩ = some (ifp tf bf) := cell_of_block h6 2
  have ca : w.cell? ⟨c, 3, none⟩ = some (ifp ta ba) := cell_of_block h6 3
  have Hf := Lib.hid hf
  have Ha := Lib.hid ha
  clear h3 h4 h6 hf ha wf wa
  have qFun := taLetFun (.pointer (some ⟨c, 0, none⟩)) 108 w
  have qApp := taLetApp (.pointer (some ⟨c, 0, none⟩)) 108 w
  have qPair := taLetPair (.pointer (some ⟨c, 0, none⟩)) 108 w
  have qLet := taLetLet (.pointer (some ⟨c, 0, none⟩)) 108 w
  go_enter Tryz.func95, Tryz.ntmps95
  go_wp2_with fail
  go_region
  all_goals go_wp2
  all_goals
    go_ret
    refine ⟨_, [ifp tf bf, ifp ta ba], rfl, World.ownsRow_lit _ #[ifp tf bf, ifp ta ba] 2 (Nat.le_refl _) (by decide) rfl, ⟨_, _, rfl, Hf.out, _, _, rfl, Ha.out, rfl⟩, ?_⟩
    exact (Keeps.refl [] w).drew.alloc _

set_option maxRecDepth 100000 in
set_option maxHeartbeats 4000000 in
theorem below_cond (w : World) (lo hi : Nat) (p : Nat) (d f a : Exp) (v : Value) (h : ExprAt w lo hi (.cond p d f a) [] [] v) (hw : wfE false (.cond p d f a) = true) : Calls Tryz.prog 95 #[v] w (BelowPost w lo hi [d, f, a]) := by
  obtain ⟨_, _, c, vd, vf, va, h3, h4, rfl, h6, hd, hf, ha⟩ := h
  simp only [wfE, Bool.and_eq_true] at hw
  obtain ⟨⟨wd, wf⟩, wa⟩ := hw
  obtain ⟨td, bd, rfl⟩ := hd.ifp wd
  obtain ⟨tf, bf, rfl⟩ := hf.ifp wf
  obtain ⟨ta, ba, rfl⟩ := ha.ifp wa
  have cd : w.cell? ⟨c, 1, none⟩ = some (ifp td bd) := cell_of_block h6 1
  have cf : w.cell? ⟨c, 2, none⟩ = some (ifp tf bf) := cell_of_block h6 2
  have ca : w.cell? ⟨c, 3, none⟩ = some (ifp ta ba) := cell_of_block h6 3
  have Hd := Lib.hid hd
  have Hf := Lib.hid hf
  have Ha := Lib.hid ha
  clear h3 h4 h6 hd hf ha wd wf wa
  have qFun := taIfFun (.pointer (some ⟨c, 0, none⟩)) 108 w
  have qApp := taIfApp (.pointer (some ⟨c, 0, none⟩)) 108 w
  have qPair := taIfPair (.pointer (some ⟨c, 0, none⟩)) 108 w
  have qLet := taIfLet (.pointer (some ⟨c, 0, none⟩)) 108 w
  have qRec := taIfRec (.pointer (some ⟨c, 0, none⟩)) 108 w
  have qIf := taIfIf (.pointer (some ⟨c, 0, none⟩)) 108 w
  go_enter Tryz.func95, Tryz.ntmps95
  go_wp2_with fail
  go_region
  all_goals go_wp2
  all_goals
    go_ret
    refine ⟨_, [ifp td bd, ifp tf bf, ifp ta ba], rfl, World.ownsRow_lit _ #[ifp td bd, ifp tf bf, ifp ta ba] 3 (Nat.le_refl _) (by decide) rfl, ⟨_, _, rfl, Hd.out, _, _, rfl, Hf.out, _, _, rfl, Ha.out, rfl⟩, ?_⟩
    exact (Keeps.refl [] w).drew.alloc _

end Go.Proofs.YtpbplpnifjbkoabGreatDoor

namespace Go.Proofs.YtpbplpnifjbkoabGreatDoor
open Go.RowKit

theorem cells_keep {w W : World} {g : Nat} {xs : List Value} (h : ∀ j, j < xs.length → w.cell? ⟨g, j, none⟩ = xs[j]?) (hk : Keeps [] w W) : ∀ j u, xs[j]? = some u → W.cell? ((⟨g, 0, none⟩ : Addr).add j) = some u := by
  intro j u hu
  have hj : j < xs.length := by
    rcases Nat.lt_or_ge j xs.length with h | h
    · exact h
    · rw [List.getElem?_eq_none h] at hu; cases hu
  have ha : (⟨g, 0, none⟩ : Addr).add j = ⟨g, j, none⟩ := by
    unfold Addr.add
    by_cases hj : j = 0
    · simp [hj]
    · simp [hj]
  rw [ha]
  exact hk.cellSome ((h j hj).trans hu) (by simp)

theorem RowAt.form {w : World} {lo hi : Nat} {E : TypeId} {v : Value} {xs : List Value} (h : RowAt w lo hi E v xs) (hne : xs ≠ []) :
    ∃ g cap, v = .slice (some ⟨g, 0, none⟩) xs.length cap ∧ ∀ j, j < xs.length → w.cell? ⟨g, j, none⟩ = xs[j]? := by
  rcases h with ⟨_, h⟩ | ⟨g, cap, cur, rfl, h1, h2, h3, h4, h5, h6, h7⟩
  · exact absurd h hne
  · refine ⟨g, cap, rfl, fun j hj => ?_⟩
    rw [cell_of_block h3 j, ← h7, List.getElem?_take]
    simp [hj]

theorem group_wf (g : Exp) (hw : wfE true g = true) : (∀ a ∈ gBodies g, wfE false a = true) ∧ wfE false (gFor g) = true := by
  induction g with
  | bnd x a g _ ih =>
    simp only [wfE, Bool.and_eq_true] at hw
    obtain ⟨i1, i2⟩ := ih hw.2
    refine ⟨fun b hb => ?_, i2⟩
    rcases List.mem_cons.1 hb with rfl | hb
    · exact hw.1
    · exact i1 b hb
  | fin b _ => exact ⟨fun a ha => by simp [gBodies] at ha, by simpa [wfE, gFor] using hw⟩
  | name _ _ => simp [wfE] at hw
  | num _ _ => simp [wfE] at hw
  | lam _ _ _ _ => simp [wfE] at hw
  | app _ _ _ _ _ => simp [wfE] at hw
  | pair _ _ _ _ _ => simp [wfE] at hw
  | letin _ _ _ _ _ _ => simp [wfE] at hw
  | recr _ _ _ => simp [wfE] at hw
  | cond _ _ _ _ _ _ _ => simp [wfE] at hw

theorem AllAt.one {w : World} {lo hi : Nat} {es : List Exp} {vs : List Value} (h : AllAt w lo hi es vs) (hw : ∀ a ∈ es, wfE false a = true) : ∀ u ∈ vs, u.oneCell' = true := by
  induction es generalizing vs with
  | nil => rw [show vs = [] from h]; intro u hu; simp at hu
  | cons a r ih =>
    obtain ⟨va, vs', rfl, h1, h2⟩ := h
    intro u hu
    rcases List.mem_cons.1 hu with rfl | hu
    · obtain ⟨ty, bb, rfl⟩ := h1.ifp (hw a (by simp)); rfl
    · exact ih h2 (fun b hb => hw b (by simp [hb])) u hu

theorem own_empty {w W : World} {b : Nat} {E : TypeId} (hb : w.heap.size ≤ b) (h : W.heap[b]? = some (.cells #[] E (0, 0))) : W.ownsRow w.heap.size E 1 (.slice (some ⟨b, 0, none⟩) 0 0) 0 [] :=
  ⟨rfl, .inr ⟨b, 0, #[], rfl, hb, h, Nat.le_refl _, by decide, rfl, rfl⟩⟩

set_option maxRecDepth 100000 in
set_option maxHeartbeats 4000000 in
theorem below_recr (w : World) (lo hi : Nat) (p : Nat) (g : Exp) (v : Value) (h : ExprAt w lo hi (.recr p g) [] [] v) (hw : wfE false (.recr p g) = true) (hfew : (gBodies g).length ≤ 65536) :
    Calls Tryz.prog 95 #[v] w (BelowPost w lo hi (gBodies g ++ [gFor g])) := by
  obtain ⟨_, _, c, ns, vs, sn, sl, vf, h3, h4, rfl, h6, hrn, hrl, hg⟩ := h
  simp only [wfE, Bool.and_eq_true] at hw
  obtain ⟨hall, hfor, hns⟩ := group_at g hw.2 _ _ _ hg
  have hwf : wfE false (gFor g) = true := (group_wf g hw.2).2
  obtain ⟨tf, bf, rfl⟩ := hfor.ifp hwf
  have hlen := hall.length
  have hne : vs ≠ [] := by
    cases g <;> simp [isBnd] at hw
    intro e; rw [e] at hlen; simp [gBodies] at hlen
  obtain ⟨gr, cap, rfl, hcells⟩ := hrl.form hne
  have hm : 0 < vs.length := by cases vs with | nil => exact absurd rfl hne | cons _ _ => simp
  have hone : ∀ u ∈ vs, u.oneCell' = true := hall.one (group_wf g hw.2).1
  have cl : w.drew.cell? ⟨c, 2, none⟩ = some (.slice (some ⟨gr, 0, none⟩) vs.length cap) := cell_of_block h6 2
  have cf : w.drew.cell? ⟨c, 3, none⟩ = some (ifp tf bf) := cell_of_block h6 3
  have cl0 : w.cell? ⟨c, 2, none⟩ = some (.slice (some ⟨gr, 0, none⟩) vs.length cap) := cell_of_block h6 2
  have cf0 : w.cell? ⟨c, 3, none⟩ = some (ifp tf bf) := cell_of_block h6 3
  have hc : c < w.heap.size := lt_of_some h6
  have hc1 : c < w.drew.heap.size := hc
  have hc2 : c < w.heap.size + 1 := by omega
  have HALL := Lib.hid hall
  have HFOR := Lib.hid hfor
  have HCE := Lib.hid hcells
  have HONE := Lib.hid hone
  have HLEN := Lib.hid hlen
  obtain ⟨ib, hib, hib0, hib1, hib2⟩ := info_parts infoExpr
  clear h3 h4 h6 hrn hrl hg hw hall hfor hns hwf hne hcells hone hlen
  have qFun := taRecFun (.pointer (some ⟨c, 0, none⟩)) 108 w
  have qApp := taRecApp (.pointer (some ⟨c, 0, none⟩)) 108 w
  have qPair := taRecPair (.pointer (some ⟨c, 0, none⟩)) 108 w
  have qLet := taRecLet (.pointer (some ⟨c, 0, none⟩)) 108 w
  have qRec := taRecRec (.pointer (some ⟨c, 0, none⟩)) 108 w
  go_enter Tryz.func95, Tryz.ntmps95
  go_wp2_with fail
  go_region_law (first
    | (refine step_append_lies _ rfl (.tmp 57) (.tmp 61) 205 rfl w.heap.size 108 ib .nilIface 1 16 Tryz.underlying205 hib hib0 hib1 hib2 rfl (by decide) (.slice (some ⟨_, 0, none⟩) 0 0) 0 [] rfl
        (own_empty (by simp) (by first | exact block_alloc _ _ | exact block_alloc_old (block_alloc _ _) | (rw [show w.heap.size + 1 = (w.alloc (.cells #[ifp tf bf] 108)).heap.size by simp]; exact block_alloc _ _)))
        ⟨gr, 0, none⟩ vs.length cap vs rfl (by simp) (cells_keep HCE.out (by repeat (first | exact (Keeps.refl [] w) | refine Keeps.drew ?_ | refine Keeps.alloc ?_ _))) HONE.out hm (by have := HLEN.out; unfold maxLen; omega) (by have := HLEN.out; omega) (by simp <;> omega) _ rfl ?_
       intro g2 c2 w2 hown2 hgr2 hlg2 hlt2
       have cf2 : w2.cell? ⟨c, 3, none⟩ = some (ifp tf bf) := (hgr2.cell_far _ (by simp; omega) (by simp [Value.ownBlock]; omega)).trans (by go_simp)
       have hc3 : c < w2.heap.size := Nat.lt_of_lt_of_le (by simp; omega) hgr2.size
       simp only [Nat.zero_add, List.nil_append] at hown2
       have hs2 : w.heap.size ≤ w2.heap.size := Nat.le_trans (by simp; try omega) hgr2.size
       have K2 : Keeps [] w w2 := Keeps.grown (by repeat (first | exact (Keeps.refl [] w) | refine Keeps.drew ?_ | refine Keeps.alloc ?_ _)) hgr2 (fun k hk => Or.inr (by simp [Value.ownBlock] at hk; omega))
       try (have hB2 : w2.heap[w.heap.size + 1]? = some (.cells #[ifp tf bf] 108 (0, 0)) := (hgr2.block _ (by simp) (by simp [Value.ownBlock])).trans (by first | exact block_alloc _ _ | exact block_alloc_old (block_alloc _ _) | (rw [show w.heap.size + 1 = (w.alloc (.cells #[] 108)).heap.size by simp]; exact block_alloc _ _)))
       try (have hB2 : w2.heap[w.heap.size]? = some (.cells #[ifp tf bf] 108 (0, 0)) := (hgr2.block _ (by simp; omega) (by simp [Value.ownBlock])).trans (by first | exact block_alloc _ _ | exact block_alloc_old (block_alloc _ _) | (rw [show w.heap.size + 1 = (w.alloc (.cells #[] 108)).heap.size by simp]; exact block_alloc _ _))))
    | (refine step_append_lies _ rfl (.tmp 62) (.tmp 67) 205 rfl w.heap.size 108 ib .nilIface 1 16 Tryz.underlying205 hib hib0 hib1 hib2 rfl (by decide) (.slice (some ⟨g2, 0, none⟩) vs.length c2) vs.length vs rfl (by first | exact hown2 | exact hown2.alloc _) ⟨_, 0, none⟩ 1 1 [ifp tf bf] rfl rfl
        (by first | exact World.news_of_block (cs := #[ifp tf bf]) hB2 | exact World.news_of_block (cs := #[ifp tf bf]) (block_alloc _ _)) (by intro u hu; simp at hu; subst hu; rfl) (by decide) (by have := HLEN.out; unfold maxLen; omega) (by have := HLEN.out; omega) (by first | exact hs2 | (simp; omega)) _ rfl ?_
       intro g3 c3 w3 hown3 hgr3 hlg3 hlt3
       have K3 : Keeps [] w w3 := Keeps.grown (by first | exact K2 | exact K2.alloc _) hgr3 (fun k hk => Or.inr (by simp only [Value.ownBlock, Option.some.injEq] at hk; subst hk; exact (hown2.lt _ rfl).1))))
  all_goals
    clear hgr2 hlg2 hlt2 cf2 hc3 hgr3 hlg3 hlt3 cl cf cl0 cf0 qFun qApp qPair qLet qRec hib hib0 hib1 hib2 hc hc1 hc2
    try clear hB2
    go_wp2
    go_ret
    exact ⟨.slice (some ⟨g3, 0, none⟩) (vs.length + 1) c3, vs ++ [ifp tf bf], rfl, by rw [show (vs ++ [ifp tf bf]).length = vs.length + 1 by simp]; exact hown3, HALL.out.snoc HFOR.out, K3⟩
end Go.Proofs.YtpbplpnifjbkoabGreatDoor

namespace Go.Proofs.YtpbplpnifjbkoabGreatDoor
open Go.RowKit

theorem esz_pos (x : Exp) : 1 ≤ esz x := by cases x <;> simp [esz]
theorem esz_group (g : Exp) : (∀ a ∈ gBodies g, esz a < esz g) ∧ esz (gFor g) ≤ esz g ∧ (gBodies g).length < esz g := by
  induction g with
  | bnd x a g _ ih =>
    obtain ⟨h1, h2, h3⟩ := ih
    refine ⟨fun b hb => ?_, by simp only [gFor, esz]; omega, by simp only [gBodies, esz, List.length_cons]; omega⟩
    rcases List.mem_cons.1 hb with rfl | hb
    · simp only [esz]; omega
    · have := h1 b hb; simp only [esz]; omega
  | fin b _ => exact ⟨fun a ha => by simp [gBodies] at ha, by simp only [gFor, esz]; omega, by simp only [gBodies, esz, List.length_nil]; omega⟩
  | _ => exact ⟨fun a ha => by simp [gBodies] at ha, Nat.le_refl _, by simp only [gBodies, esz, List.length_nil]; omega⟩
theorem esz_kids {x a : Exp} (h : a ∈ kids x) : esz a < esz x := by
  cases x with
  | recr p g =>
    have ⟨h1, h2, _⟩ := esz_group g
    simp only [kids, List.mem_append, List.mem_singleton] at h
    rcases h with h | rfl
    · have := h1 a h; simp only [esz]; omega
    · simp only [esz]; omega
  | name p s =>
    simp [kids] at h
  | num p s =>
    simp [kids] at h
  | lam p x b =>
    simp only [kids, List.mem_cons, List.not_mem_nil, or_false] at h
    subst h; (simp only [esz]; omega)
  | app p f a' =>
    simp only [kids, List.mem_cons, List.not_mem_nil, or_false] at h
    rcases h with rfl | rfl <;> (simp only [esz]; omega)
  | pair p f a' =>
    simp only [kids, List.mem_cons, List.not_mem_nil, or_false] at h
    rcases h with rfl | rfl <;> (simp only [esz]; omega)
  | letin p x f a' =>
    simp only [kids, List.mem_cons, List.not_mem_nil, or_false] at h
    rcases h with rfl | rfl <;> (simp only [esz]; omega)
  | cond p c f a' =>
    simp only [kids, List.mem_cons, List.not_mem_nil, or_false] at h
    rcases h with rfl | rfl | rfl <;> (simp only [esz]; omega)
  | bnd x a' g => simp [kids] at h
  | fin b => simp [kids] at h
theorem wfE_kids {x a : Exp} (hw : wfE false x = true) (h : a ∈ kids x) : wfE false a = true := by
  cases x with
  | recr p g =>
    simp only [wfE, Bool.and_eq_true] at hw
    obtain ⟨h1, h2⟩ := group_wf g hw.2
    simp only [kids, List.mem_append, List.mem_singleton] at h
    rcases h with h | rfl
    · exact h1 a h
    · exact h2
  | name p s =>
    simp [kids] at h
  | num p s =>
    simp [kids] at h
  | lam p x b =>
    simp only [kids, List.mem_cons, List.not_mem_nil, or_false] at h
    simp only [wfE] at hw
    subst h; exact hw
  | app p f a' =>
    simp only [kids, List.mem_cons, List.not_mem_nil, or_false] at h
    simp only [wfE, Bool.and_eq_true] at hw
    rcases h with rfl | rfl <;> simp [hw]
  | pair p f a' =>
    simp only [kids, List.mem_cons, List.not_mem_nil, or_false] at h
    simp only [wfE, Bool.and_eq_true] at hw
    rcases h with rfl | rfl <;> simp [hw]
  | letin p x f a' =>
    simp only [kids, List.mem_cons, List.not_mem_nil, or_false] at h
    simp only [wfE, Bool.and_eq_true] at hw
    rcases h with rfl | rfl <;> simp [hw]
  | cond p c f a' =>
    simp only [kids, List.mem_cons, List.not_mem_nil, or_false] at h
    simp only [wfE, Bool.and_eq_true] at hw
    rcases h with rfl | rfl | rfl <;> simp [hw]
  | bnd x a' g => simp [kids] at h
  | fin b => simp [kids] at h
theorem depth_le (x : Exp) : depth x ≤ esz x := by
  induction x <;> simp only [depth, esz] <;> omega

theorem kids_len (x : Exp) : (kids x).length ≤ esz x := by
  cases x with
  | recr p g => have := (esz_group g).2.2; simp only [kids, esz, List.length_append, List.length_cons, List.length_nil]; omega
  | name p s => simp [kids]
  | num p s => simp [kids]
  | lam p x b => simp [kids, esz]
  | app p f a => have := esz_pos f; have := esz_pos a; simp [kids, esz]; omega
  | pair p f a => have := esz_pos f; have := esz_pos a; simp [kids, esz]; omega
  | letin p x f a => have := esz_pos f; have := esz_pos a; simp [kids, esz]; omega
  | cond p c f a => have := esz_pos c; have := esz_pos f; have := esz_pos a; simp [kids, esz]; omega
  | bnd x a g => simp [kids]
  | fin b => simp [kids]
def mx : List Exp → Nat
  | [] => 0
  | a :: r => max (depth a) (mx r)
theorem mx_snoc (l : List Exp) (a : Exp) : mx (l ++ [a]) = max (mx l) (depth a) := by
  induction l with
  | nil => simp [mx]
  | cons b r ih => simp only [List.cons_append, mx, ih]; omega
theorem take_next {l : List Exp} {j : Nat} (h : j < l.length) : mx (l.take (j + 1)) = max (mx (l.take j)) (depth l[j]) := by
  rw [List.take_succ_eq_append_getElem h, mx_snoc]

theorem depth_group (g : Exp) (hw : wfE true g = true) : depth g = mx (gBodies g ++ [gFor g]) := by
  induction g with
  | bnd x a g _ ih =>
    simp only [wfE, Bool.and_eq_true] at hw
    simp [depth, gBodies, gFor, mx, ih hw.2]
  | fin b _ => simp [depth, gBodies, gFor, mx]
  | name _ _ => simp [wfE] at hw
  | num _ _ => simp [wfE] at hw
  | lam _ _ _ _ => simp [wfE] at hw
  | app _ _ _ _ _ => simp [wfE] at hw
  | pair _ _ _ _ _ => simp [wfE] at hw
  | letin _ _ _ _ _ _ => simp [wfE] at hw
  | recr _ _ _ => simp [wfE] at hw
  | cond _ _ _ _ _ _ _ => simp [wfE] at hw
theorem depth_kids (x : Exp) (hw : wfE false x = true) : depth x = mx (kids x) + 1 := by
  cases x with
  | recr p g =>
    simp only [wfE, Bool.and_eq_true] at hw
    simp [depth, kids, depth_group g hw.2]
  | bnd x a g => simp [wfE] at hw
  | fin b => simp [wfE] at hw
  | name p s => rfl
  | num p s => rfl
  | lam p x b => simp [depth, kids, mx]
  | app p f a => simp [depth, kids, mx]
  | pair p f a => simp [depth, kids, mx]
  | letin p x f a => simp [depth, kids, mx]
  | cond p c f a => simp only [depth, kids, mx]; omega
theorem mx_lt (x : Exp) (n : Nat) (h : ∀ a ∈ kids x, depth a ≤ n) : mx (kids x) ≤ n := by
  generalize kids x = l at h
  induction l with
  | nil => simp [mx]
  | cons a r ih =>
    have := h a (by simp)
    have := ih (fun b hb => h b (by simp [hb]))
    simp [mx]; omega

set_option maxRecDepth 100000 in
set_option maxHeartbeats 4000000 in
theorem below_name (w : World) (lo hi p : Nat) (s : Bytes) (v : Value) (h : ExprAt w lo hi (.name p s) [] [] v) : Calls Tryz.prog 95 #[v] w (BelowPost w lo hi []) := by
  obtain ⟨_, _, c, h3, h4, rfl, h6⟩ := h
  clear h3 h4 h6
  have qFun := taNameFun (.pointer (some ⟨c, 0, none⟩)) 108 w
  have qApp := taNameApp (.pointer (some ⟨c, 0, none⟩)) 108 w
  have qPair := taNamePair (.pointer (some ⟨c, 0, none⟩)) 108 w
  have qLet := taNameLet (.pointer (some ⟨c, 0, none⟩)) 108 w
  have qRec := taNameRec (.pointer (some ⟨c, 0, none⟩)) 108 w
  have qIf := taNameIf (.pointer (some ⟨c, 0, none⟩)) 108 w
  go_enter Tryz.func95, Tryz.ntmps95
  go_wp2
  go_ret
  exact ⟨_, [], rfl, World.ownsRow_nil _ _ _ _, rfl, Keeps.refl [] w⟩

set_option maxRecDepth 100000 in
set_option maxHeartbeats 4000000 in
theorem below_num (w : World) (lo hi p : Nat) (s : Bytes) (v : Value) (h : ExprAt w lo hi (.num p s) [] [] v) : Calls Tryz.prog 95 #[v] w (BelowPost w lo hi []) := by
  obtain ⟨_, _, c, h3, h4, rfl, h6⟩ := h
  clear h3 h4 h6
  have qFun := taNumFun (.pointer (some ⟨c, 0, none⟩)) 108 w
  have qApp := taNumApp (.pointer (some ⟨c, 0, none⟩)) 108 w
  have qPair := taNumPair (.pointer (some ⟨c, 0, none⟩)) 108 w
  have qLet := taNumLet (.pointer (some ⟨c, 0, none⟩)) 108 w
  have qRec := taNumRec (.pointer (some ⟨c, 0, none⟩)) 108 w
  have qIf := taNumIf (.pointer (some ⟨c, 0, none⟩)) 108 w
  go_enter Tryz.func95, Tryz.ntmps95
  go_wp2
  go_ret
  exact ⟨_, [], rfl, World.ownsRow_nil _ _ _ _, rfl, Keeps.refl [] w⟩

theorem below_any {w : World} {lo hi : Nat} {x : Exp} {v : Value} (h : ExprAt w lo hi x [] [] v) (hw : wfE false x = true) (hs : esz x ≤ 65536) : Calls Tryz.prog 95 #[v] w (BelowPost w lo hi (kids x)) := by
  cases x with
  | name p s => exact below_name w lo hi p s v h
  | num p s => exact below_num w lo hi p s v h
  | lam p x b => exact below_lam w lo hi p x b v h hw
  | app p f a => exact below_app w lo hi p f a v h hw
  | pair p f a => exact below_pair w lo hi p f a v h hw
  | letin p x f a => exact below_letin w lo hi p x f a v h hw
  | cond p c f a => exact below_cond w lo hi p c f a v h hw
  | recr p g => exact below_recr w lo hi p g v h hw (by have := (esz_group g).2.2; simp only [esz] at hs; omega)
  | bnd x a g => simp [wfE] at hw
  | fin b => simp [wfE] at hw

set_option maxRecDepth 100000 in
set_option maxHeartbeats 4000000 in
theorem depth_any (n : Nat) (hn : n ≤ 65536) : ∀ (x : Exp), esz x ≤ n → wfE false x = true → ∀ (w : World) (lo hi : Nat) (v : Value), ExprAt w lo hi x [] [] v → hi ≤ w.heap.size →
    Calls Tryz.prog 89 #[v] w fun e w' => e = .returned (.int .i64 (depth x)) ∧ Keeps [] w w' := by
  induction n with
  | zero => intro x hx; have := esz_pos x; omega
  | succ n ih =>
    intro x hx hw w lo hi v h hhi
    replace ih := ih (by omega)
    have hmx : mx (kids x) ≤ n := mx_lt x n (fun a ha => by
      have := esz_kids ha
      have := depth_le a
      omega)
    have HB := Lib.hid (below_any h hw (by omega))
    have HIH := Lib.hid ih
    have HW := Lib.hid hw
    obtain ⟨ty, bb, rfl⟩ := h.ifp hw
    clear h hw ih
    go_enter Tryz.func89, Tryz.ntmps89
    go_wp2_with fail
    refine HB.out.mono ?_
    rintro e w1 ⟨sv, vs, rfl, hown, hall, hk⟩
    obtain ⟨ad, cap, rfl, hcell⟩ := ownsRow_shape hown
    have HALL := Lib.hid hall
    have hlen := hall.length
    have HK := Lib.hid hk
    have HL := Lib.hid hlen
    have hsz := hk.size
    have hvl : vs.length ≤ 65536 := by have := kids_len x; omega
    have HC := Lib.hid hcell
    have HD := Lib.hid (depth_kids x HW.out)
    clear hall hlen hk hown hcell
    go_wp2_with fail
    go_loopg [3, 9] vs.length (fun gg m i wx => ∃ j : Nat, gg = vs.length - j ∧ i = .int .i64 j ∧ j ≤ vs.length ∧ m = .int .i64 (mx ((kids x).take j)) ∧ Keeps [] w1 wx)
    case atStart => exact ⟨0, rfl, rfl, by omega, rfl, Keeps.refl _ _⟩
    case round =>
      obtain ⟨j, hg, rfl, hj, rfl, hk⟩ := hrel
      have HG := Lib.hid hg
      have HK2 := Lib.hid hk
      clear hg hk
      by_cases hlt : j < vs.length
      · obtain ⟨gb, rfl, hc⟩ := HC.out j hlt
        obtain ⟨vj, hvj, hex⟩ := HALL.out.get j (by rw [← HL.out]; exact hlt)
        obtain ⟨tj, bj, rfl⟩ := hex.ifp (wfE_kids HW.out (List.getElem_mem _))
        rw [hvj] at hc
        have hc' := HK2.out.cellSome hc (by simp)
        have hdl : decide ((j : Int) < (vs.length : Int)) = true := by simpa using hlt
        have hex2 := ExprAt.keep (fun b h1 h2 => (HK2.out.block b (by omega) (by simp)).trans (HK.out.block b (by omega) (by simp))) _ _ _ _ hex
        have HE := Lib.hid hex2
        have hst := HK2.out.size
        clear hc hvj hex hex2
        go_wp2_with fail
        refine (HIH.out _ (by have := esz_kids (List.getElem_mem (l := kids x) (n := j) (by rw [← HL.out]; exact hlt)); omega) (wfE_kids HW.out (List.getElem_mem _)) _ _ _ _ HE.out (by omega)).mono ?_
        rintro e w2 ⟨rfl, hk⟩
        have HK3 := Lib.hid (HK2.out.trans0 hk)
        clear hk
        go_wp2_with fail
        all_goals
          go_roundg (vs.length - (j + 1))
          case measure => have := HG.out; omega
          case rel =>
            refine ⟨j + 1, rfl, by go_num, by omega, ?_, HK3.out⟩
            rw [take_next (by rw [← HL.out]; exact hlt)]
            refine congrArg _ ?_
            omega
      · have hdl : decide ((j : Int) < (vs.length : Int)) = false := by simpa using hlt
        have hjl : (kids x).take j = kids x := List.take_of_length_le (by rw [← HL.out]; omega)
        rw [hjl]
        clear hjl
        go_wp2
        go_ret
        refine ⟨?_, HK.out.trans0 HK2.out⟩
        rw [HD.out]
        rfl
end Go.Proofs.YtpbplpnifjbkoabGreatDoor
