/-
  The document's parser: 'let'.
-/
import Derived.Test.YtpbplpnifjbkoaaDoorRbound
import Derived.Deep.RegionLaw
import Derived.Test.YtpbplpnifjbkoaaDoorRcond
namespace Go.Proofs.YtpbplpnifjbkoaaDoor
open Go.RowKit

set_option maxRecDepth 100000 in
set_option maxHeartbeats 4000000 in
theorem rexp_let {r n : Nat} {ts : List Tok} {w : World} (ih : RExpIH r n) (h : RC r ts (-1) w) (hk : headKind ts = .kLet) (hk2 : headKind (adv ts) ≠ .kRec) (res : Except Nat (Exp × List Tok)) (hres : pExp (n + 1) ts = some res) :
    Calls Tryd.prog 25 #[.pointer (some ⟨r, 0, none⟩)] w (RPost r w id res) := by
  have HC := Lib.hid h
  unfold pExp at hres
  simp only [hk, hk2, if_true, reduceCtorEq, if_false] at hres
  rw [want_bindS] at hres
  rw [bindS_want, bindS_bind] at hres
  obtain ⟨res1, hr1, hres⟩ := res_next hres
  rw [bindS_want, bindS_bind] at hres
  obtain ⟨res2, hr2, hres⟩ := res_next hres
  have HR0 := Lib.hid hres
  have HR1 := Lib.hid (show bindS (wantS .eqs (dupS [] (.ok (adv ts)) (wantS .name (.ok (adv ts))))) (pExp n) = some res1 by rw [dup_zero]; exact hr1)
  have HR2 := Lib.hid hr2
  have HE2 := Lib.hid hk2
  obtain ⟨g, n', cap, kk, x, c0, c1, c2, hlt, t0, t1, hx, t2, hn⟩ := h.cells
  have hr : r < w.heap.size := lt_of_cell c0
  have hg : g < w.heap.size := lt_of_cell t0
  have HE := Lib.hid hk
  have HIH := Lib.hid ih
  clear h hx hres hk ih hr1 hr2 hk2
  go_enter Tryd.func25, Tryd.ntmps25
  go_wp2_with fail
  go_region
  clear c0 c1 hlt t0 t1 t2 hg
  have K0 := Lib.hid (show Keeps [] w (w.alloc (.cells #[.string ⟨#[]⟩, .slice none 0 0, .slice none 0 0, .int .i64 (headPos ts)] 77)).drew from ((Keeps.refl [] w).alloc _).drew)
  have N0 := Lib.hid (show NSt r w [] (headPos ts) [] [] [] (.slice none 0 0) (.slice none 0 0) (.ok ts) (w.alloc (.cells #[.string ⟨#[]⟩, .slice none 0 0, .slice none 0 0, .int .i64 (headPos ts)] 77)).drew from
    ⟨⟨block_alloc w _, World.ownsRow_nil _ _ _ _, World.ownsRow_nil _ _ _ _⟩, HC.out.keep K0.out, K0.out.mono (by simp), hr, fun _ _ => rfl⟩)
  clear K0
  go_wp2_with fail
  refine (rtake_no N0.out.st .kFun _ rfl (by rw [HE.out]; decide)).mono ?_
  rintro e w_kFun ⟨rfl, hk⟩
  have N00 := Lib.hid (N0.out.step (hk.mono (by simp)) (N0.out.st.keep hk) (fun ts' e => ⟨ts', e⟩))
  clear hk N0
  go_wp2_with fail
  refine (rtake_no N00.out.st .kIf _ rfl (by rw [HE.out]; decide)).mono ?_
  rintro e w_kIf ⟨rfl, hk⟩
  have N000 := Lib.hid (N00.out.step (hk.mono (by simp)) (N00.out.st.keep hk) (fun ts' e => ⟨ts', e⟩))
  clear hk N00
  go_wp2_with fail
  refine (rtake_yes N000.out.st .kLet _ rfl HE.out).mono ?_
  rintro e w1 ⟨rfl, hrc, hk, hc2⟩
  have N1 := Lib.hid (N000.out.step (s' := .ok (adv ts)) hk (hrc (by decide) (by decide)) (fun _ _ => ⟨_, rfl⟩))
  clear hrc hk hc2 N000
  have o0 : w1.cell? ⟨w.heap.size, 0, none⟩ = some (.string ⟨#[]⟩) := cell_of_block N1.out.nd.blk 0
  have f0 : w1.frozen? ⟨w.heap.size, 0, none⟩ = false := free_of_block N1.out.nd.blk 0
  go_wp2_with fail
  clear o0 f0
  have N2 := Lib.hid (N1.out.word oLet)
  clear N1
  revert N2
  generalize hW : (w1.setCell ⟨w.heap.size, 0, none⟩ (.string ⟨#[108, 101, 116]⟩)) = W
  rw [show (w1.setCell ⟨w.heap.size, 0, none⟩ (.string (bs oLet))) = W from hW]
  clear hW
  intro N2
  refine (rtake_no N2.out.st .kRec _ rfl HE2.out).mono ?_
  rintro e w2 ⟨rfl, hk⟩
  have N3 := Lib.hid (N2.out.step (hk.mono (by simp)) (N2.out.st.keep hk) (fun ts' e => ⟨ts', e⟩))
  clear hk N2
  go_wp2_with fail
  refine (rbound_any HIH.out N3.out (by simp) (by simp) HR1.out).mono ?_
  rintro e w3 ⟨rfl, sn, sl, x, va, hst, hx⟩
  have N4 := Lib.hid hst
  have HX := Lib.hid hx
  clear hst hx N3
  have o0 : w3.cell? ⟨w.heap.size, 0, none⟩ = some (.string ⟨#[108, 101, 116]⟩) := cell_of_block N4.out.nd.blk 0
  go_wp2_with fail
  go_loopg [] 0 (fun _ wx => w3 = wx)
  case atStart => rfl
  case round =>
    obtain rfl := hrel
    go_wp2_with fail
    clear o0
    have N4 := Lib.hid (show NSt r w oLet (headPos ts) [x] [va] [expOf res1] sn sl (stOf res1) w3 from N4.out)
    refine (rneed_st N4.out.st .kIn _ rfl (by decide) (by decide)).mono ?_
    rintro e w_N6 ⟨y_N6, rfl, hst, hk, _⟩
    have N6 := Lib.hid (N4.out.step hk hst wantS_ok).drew
    clear hst hk N4
    go_wp2_with fail
    have cl : w_N6.drew.cell? ⟨w.heap.size, 2, none⟩ = some (sl) := cell_of_block N6.out.nd.blk 2
    have bz : w.heap.size < w_N6.drew.heap.size := lt_of_some N6.out.nd.blk
    obtain ⟨ib, hib, hib0, hib1, hib2⟩ := info_parts infoPExp
    go_region_law (first
      | (refine step_append_lies _ rfl _ _ 75 rfl (w.heap.size + 1) 31 ib (.pointer none) 1 8 Tryd.underlying75 hib hib0 hib1 hib2 rfl (by decide) (sl) 1 [va] (by simp [Act.eval]) ((M7.out).nd.rl.alloc _) ⟨u7.heap.size, 0, none⟩ 1 1 [.pointer (some ⟨b7, 0, none⟩)] (by simp [Act.eval]) rfl (cells_new u7 [.pointer (some ⟨b7, 0, none⟩)] 31) (by intro u hu; simp at hu; subst hu; rfl) (by decide) (by unfold maxLen; first | decide | omega) (by first | decide | omega) (by have := lt_of_some (M7.out).nd.blk; simp; omega) _ rfl ?_
         intro g7 c7 v7 hown hgr hlg hlt
         have hb5 := (hgr.block _ (show w.heap.size < _ by have := lt_of_some (M7.out).nd.blk; simp; omega) (fun e => absurd ((M7.out).nd.rl.lt _ e.symm).1 (by omega))).trans (block_alloc_old (M7.out).nd.blk)
         have fn5 : v7.frozen? ⟨w.heap.size, 2, none⟩ = false := free_of_block hb5 2
         have cn5 : v7.cell? ⟨w.heap.size, 2, none⟩ = some (sl) := cell_of_block hb5 2
         clear hb5)
      | (go_simp; go_at_call 25; refine (rexp_st HIH.out N6.out.st HR2.out).mono ?_; rintro e u7 hpost
         obtain ⟨b7, rfl, hk, hst, hv⟩ := hpost.parts
         have M7 := Lib.hid (N6.out.step hk hst (stOf_ok HR2.out))
         have P7 := Lib.hid (And.intro hk (And.intro hst hv))
         have cn3 : u7.cell? ⟨w.heap.size, 2, none⟩ = some (sl) := cell_of_block (M7.out).nd.blk 2
         have bz3 : w.heap.size < u7.heap.size := lt_of_some (M7.out).nd.blk
         clear hst hk hv hpost))
    all_goals
      have NE := Lib.hid (show NSt r w oLet _ [x] [va, .pointer (some ⟨b7, 0, none⟩)] [expOf res1, expOf res2] sn (.slice (some ⟨g7, 0, none⟩) 2 c7) (stOf res2) (v7.setCell ⟨w.heap.size, 2, none⟩ (.slice (some ⟨g7, 0, none⟩) 2 c7)) from
        N6.out.part (expOf res2) (.pointer (some ⟨b7, 0, none⟩)) P7.out.1 P7.out.2.1 (fun ts' e => ⟨stOf_ok HR2.out ts' e, P7.out.2.2 ts' e⟩) ((Keeps.refl [] u7).alloc _) g7 c7 hown hgr (hlg.imp id (fun h => Nat.le_trans (by simp) (Nat.le_of_eq h.symm))))
      clear cl bz hib hib0 hib1 hib2 cn3 bz3 hown hgr hlg hlt fn5 cn5 M7 P7 N6
      go_wp2_with fail
      revert NE
      generalize v7.setCell ⟨w.heap.size, 2, none⟩ (.slice (some ⟨g7, 0, none⟩) 2 c7) = X7
      intro NE
      go_wp2
      refine bodyPost_ret (v := .pointer (some ⟨w.heap.size, 0, none⟩)) (by simp [results, Tryd.results25, go_sem]) rfl ⟨NE.out.kp, w.heap.size, rfl, ?_⟩
      have hr2 := HR0.out
      have hst := NE.out.st
      cases res2 with
      | error p =>
        obtain rfl : res = .error p := by simpa [bindS, stOf] using hr2.symm
        exact hst
      | ok q =>
        obtain ⟨b, ts3⟩ := q
        obtain rfl : res = .ok (.letin (headPos ts) (headText (adv ts)) (expOf res1) b, ts3) := by simpa [bindS, stOf, expOf] using hr2.symm
        obtain ⟨v1, vs1, e1, h1, hp⟩ := PartsAt.cons (NE.out.bn ts3 rfl)
        obtain ⟨v2, e2, h2⟩ := PartsAt.one hp
        subst e2
        obtain ⟨_, rfl⟩ : True ∧ x = headText (adv ts) := by
          refine ⟨trivial, HX.out _ rfl ?_⟩
          obtain ⟨t', h'⟩ := stOf_ok HR2.out ts3 rfl
          obtain ⟨t', h'⟩ := wantS_ok t' h'
          obtain ⟨t', h'⟩ := stOf_ok HR1.out t' h'
          obtain ⟨t', h'⟩ := wantS_ok t' h'
          rw [dup_zero] at h'
          by_cases hn : headKind (adv ts) = .name
          · exact hn
          · simp [wantS, hn] at h'
        have hn := NE.out.node
        rw [e1] at hn
        exact ⟨⟨rfl, rfl, v1, v2, hn, RExpAt.widen (Nat.le_succ _) (Nat.le_refl _) _ _ _ _ h1, RExpAt.widen (Nat.le_succ _) (Nat.le_refl _) _ _ _ _ h2⟩, hst⟩
end Go.Proofs.YtpbplpnifjbkoaaDoor
