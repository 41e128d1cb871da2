/-
  ast.Below of a let rec, by contract.
-/
import Derived.Test.YtpbplpnifjbkoaaDoorBelow
import Derived.Deep.RegionLaw
namespace Go.Proofs.YtpbplpnifjbkoaaDoor
open Go.RowKit

theorem cells_keep {w W : World} {g : Nat} {xs : List Value} (h : ∀ j, j < xs.length → w.cell? ⟨g, j, none⟩ = xs[j]?) (hk : Keeps [] w W) : ∀ j u, xs[j]? = some u → W.cell? ((⟨g, 0, none⟩ : Addr).add j) = some u := by
  intro j u hu
  have hj : j < xs.length := by
    rcases Nat.lt_or_ge j xs.length with h | h
    · exact h
    · rw [List.getElem?_eq_none h] at hu; cases hu
  have ha : (⟨g, 0, none⟩ : Addr).add j = ⟨g, j, none⟩ := by
    unfold Addr.add
    by_cases hj : j = 0
    · simp [hj]
    · simp [hj]
  rw [ha]
  exact hk.cellSome ((h j hj).trans hu) (by simp)

theorem RowAt.form {w : World} {lo hi : Nat} {E : TypeId} {v : Value} {xs : List Value} (h : RowAt w lo hi E v xs) (hne : xs ≠ []) :
    ∃ g cap, v = .slice (some ⟨g, 0, none⟩) xs.length cap ∧ ∀ j, j < xs.length → w.cell? ⟨g, j, none⟩ = xs[j]? := by
  rcases h with ⟨_, h⟩ | ⟨g, cap, cur, rfl, h1, h2, h3, h4, h5, h6, h7⟩
  · exact absurd h hne
  · refine ⟨g, cap, rfl, fun j hj => ?_⟩
    rw [cell_of_block h3 j, ← h7, List.getElem?_take]
    simp [hj]

theorem group_wf (g : Exp) (hw : wfE true g = true) : (∀ a ∈ gBodies g, wfE false a = true) ∧ wfE false (gFor g) = true := by
  induction g with
  | bnd x a g _ ih =>
    simp only [wfE, Bool.and_eq_true] at hw
    obtain ⟨i1, i2⟩ := ih hw.2
    refine ⟨fun b hb => ?_, i2⟩
    rcases List.mem_cons.1 hb with rfl | hb
    · exact hw.1
    · exact i1 b hb
  | fin b _ => exact ⟨fun a ha => by simp [gBodies] at ha, by simpa [wfE, gFor] using hw⟩
  | name _ _ => simp [wfE] at hw
  | num _ _ => simp [wfE] at hw
  | lam _ _ _ _ => simp [wfE] at hw
  | app _ _ _ _ _ => simp [wfE] at hw
  | pair _ _ _ _ _ => simp [wfE] at hw
  | letin _ _ _ _ _ _ => simp [wfE] at hw
  | recr _ _ _ => simp [wfE] at hw
  | cond _ _ _ _ _ _ _ => simp [wfE] at hw

theorem AllAt.one {w : World} {lo hi : Nat} {es : List Exp} {vs : List Value} (h : AllAt w lo hi es vs) (hw : ∀ a ∈ es, wfE false a = true) : ∀ u ∈ vs, u.oneCell' = true := by
  induction es generalizing vs with
  | nil => rw [show vs = [] from h]; intro u hu; simp at hu
  | cons a r ih =>
    obtain ⟨va, vs', rfl, h1, h2⟩ := h
    intro u hu
    rcases List.mem_cons.1 hu with rfl | hu
    · obtain ⟨ty, bb, rfl⟩ := h1.ifp (hw a (by simp)); rfl
    · exact ih h2 (fun b hb => hw b (by simp [hb])) u hu

theorem own_empty {w W : World} {b : Nat} {E : TypeId} (hb : w.heap.size ≤ b) (h : W.heap[b]? = some (.cells #[] E (0, 0))) : W.ownsRow w.heap.size E 1 (.slice (some ⟨b, 0, none⟩) 0 0) 0 [] :=
  ⟨rfl, .inr ⟨b, 0, #[], rfl, hb, h, Nat.le_refl _, by decide, rfl, rfl⟩⟩

set_option maxRecDepth 100000 in
set_option maxHeartbeats 4000000 in
theorem below_recr (w : World) (lo hi : Nat) (p : Nat) (g : Exp) (v : Value) (h : ExprAt w lo hi (.recr p g) [] [] v) (hw : wfE false (.recr p g) = true) (hfew : (gBodies g).length ≤ 65536) :
    Calls Tryd.prog 89 #[v] w (BelowPost w lo hi (gBodies g ++ [gFor g])) := by
  obtain ⟨_, _, c, ns, vs, sn, sl, vf, h3, h4, rfl, h6, hrn, hrl, hg⟩ := h
  simp only [wfE, Bool.and_eq_true] at hw
  obtain ⟨hall, hfor, hns⟩ := group_at g hw.2 _ _ _ hg
  have hwf : wfE false (gFor g) = true := (group_wf g hw.2).2
  obtain ⟨tf, bf, rfl⟩ := hfor.ifp hwf
  have hlen := hall.length
  have hne : vs ≠ [] := by
    cases g <;> simp [isBnd] at hw
    intro e; rw [e] at hlen; simp [gBodies] at hlen
  obtain ⟨gr, cap, rfl, hcells⟩ := hrl.form hne
  have hm : 0 < vs.length := by cases vs with | nil => exact absurd rfl hne | cons _ _ => simp
  have hone : ∀ u ∈ vs, u.oneCell' = true := hall.one (group_wf g hw.2).1
  have cl : w.drew.cell? ⟨c, 2, none⟩ = some (.slice (some ⟨gr, 0, none⟩) vs.length cap) := cell_of_block h6 2
  have cf : w.drew.cell? ⟨c, 3, none⟩ = some (ifp tf bf) := cell_of_block h6 3
  have cl0 : w.cell? ⟨c, 2, none⟩ = some (.slice (some ⟨gr, 0, none⟩) vs.length cap) := cell_of_block h6 2
  have cf0 : w.cell? ⟨c, 3, none⟩ = some (ifp tf bf) := cell_of_block h6 3
  have hc : c < w.heap.size := lt_of_some h6
  have hc1 : c < w.drew.heap.size := hc
  have hc2 : c < w.heap.size + 1 := by omega
  have HALL := Lib.hid hall
  have HFOR := Lib.hid hfor
  have HCE := Lib.hid hcells
  have HONE := Lib.hid hone
  have HLEN := Lib.hid hlen
  obtain ⟨ib, hib, hib0, hib1, hib2⟩ := info_parts infoExpr
  clear h3 h4 h6 hrn hrl hg hw hall hfor hns hwf hne hcells hone hlen
  have qFun := taRecFun (.pointer (some ⟨c, 0, none⟩)) 110 w
  have qApp := taRecApp (.pointer (some ⟨c, 0, none⟩)) 110 w
  have qPair := taRecPair (.pointer (some ⟨c, 0, none⟩)) 110 w
  have qLet := taRecLet (.pointer (some ⟨c, 0, none⟩)) 110 w
  have qRec := taRecRec (.pointer (some ⟨c, 0, none⟩)) 110 w
  go_enter Tryd.func89, Tryd.ntmps89
  go_wp2_with fail
  go_region_law (first
    | (refine step_append_lies _ rfl (.tmp 57) (.tmp 61) 193 rfl w.heap.size 110 ib .nilIface 1 16 Tryd.underlying193 hib hib0 hib1 hib2 rfl (by decide) (.slice (some ⟨_, 0, none⟩) 0 0) 0 [] rfl
        (own_empty (by simp) (by first | exact block_alloc _ _ | exact block_alloc_old (block_alloc _ _) | (rw [show w.heap.size + 1 = (w.alloc (.cells #[ifp tf bf] 110)).heap.size by simp]; exact block_alloc _ _)))
        ⟨gr, 0, none⟩ vs.length cap vs rfl (by simp) (cells_keep HCE.out (by repeat (first | exact (Keeps.refl [] w) | refine Keeps.drew ?_ | refine Keeps.alloc ?_ _))) HONE.out hm (by have := HLEN.out; unfold maxLen; omega) (by have := HLEN.out; omega) (by simp <;> omega) _ rfl ?_
       intro g2 c2 w2 hown2 hgr2 hlg2 hlt2
       have cf2 : w2.cell? ⟨c, 3, none⟩ = some (ifp tf bf) := (hgr2.cell_far _ (by simp; omega) (by simp [Value.ownBlock]; omega)).trans (by go_simp)
       have hc3 : c < w2.heap.size := Nat.lt_of_lt_of_le (by simp; omega) hgr2.size
       simp only [Nat.zero_add, List.nil_append] at hown2
       have hs2 : w.heap.size ≤ w2.heap.size := Nat.le_trans (by simp; try omega) hgr2.size
       have K2 : Keeps [] w w2 := Keeps.grown (by repeat (first | exact (Keeps.refl [] w) | refine Keeps.drew ?_ | refine Keeps.alloc ?_ _)) hgr2 (fun k hk => Or.inr (by simp [Value.ownBlock] at hk; omega))
       try (have hB2 : w2.heap[w.heap.size + 1]? = some (.cells #[ifp tf bf] 110 (0, 0)) := (hgr2.block _ (by simp) (by simp [Value.ownBlock])).trans (by first | exact block_alloc _ _ | exact block_alloc_old (block_alloc _ _) | (rw [show w.heap.size + 1 = (w.alloc (.cells #[] 110)).heap.size by simp]; exact block_alloc _ _)))
       try (have hB2 : w2.heap[w.heap.size]? = some (.cells #[ifp tf bf] 110 (0, 0)) := (hgr2.block _ (by simp; omega) (by simp [Value.ownBlock])).trans (by first | exact block_alloc _ _ | exact block_alloc_old (block_alloc _ _) | (rw [show w.heap.size + 1 = (w.alloc (.cells #[] 110)).heap.size by simp]; exact block_alloc _ _))))
    | (refine step_append_lies _ rfl (.tmp 62) (.tmp 67) 193 rfl w.heap.size 110 ib .nilIface 1 16 Tryd.underlying193 hib hib0 hib1 hib2 rfl (by decide) (.slice (some ⟨g2, 0, none⟩) vs.length c2) vs.length vs rfl (by first | exact hown2 | exact hown2.alloc _) ⟨_, 0, none⟩ 1 1 [ifp tf bf] rfl rfl
        (by first | exact World.news_of_block (cs := #[ifp tf bf]) hB2 | exact World.news_of_block (cs := #[ifp tf bf]) (block_alloc _ _)) (by intro u hu; simp at hu; subst hu; rfl) (by decide) (by have := HLEN.out; unfold maxLen; omega) (by have := HLEN.out; omega) (by first | exact hs2 | (simp; omega)) _ rfl ?_
       intro g3 c3 w3 hown3 hgr3 hlg3 hlt3
       have K3 : Keeps [] w w3 := Keeps.grown (by first | exact K2 | exact K2.alloc _) hgr3 (fun k hk => Or.inr (by simp only [Value.ownBlock, Option.some.injEq] at hk; subst hk; exact (hown2.lt _ rfl).1))))
  all_goals
    clear hgr2 hlg2 hlt2 cf2 hc3 hgr3 hlg3 hlt3 cl cf cl0 cf0 qFun qApp qPair qLet qRec hib hib0 hib1 hib2 hc hc1 hc2
    try clear hB2
    go_wp2
    go_ret
    exact ⟨.slice (some ⟨g3, 0, none⟩) (vs.length + 1) c3, vs ++ [ifp tf bf], rfl, by rw [show (vs ++ [ifp tf bf]).length = vs.length + 1 by simp]; exact hown3, HALL.out.snoc HFOR.out, K3⟩
end Go.Proofs.YtpbplpnifjbkoaaDoor
