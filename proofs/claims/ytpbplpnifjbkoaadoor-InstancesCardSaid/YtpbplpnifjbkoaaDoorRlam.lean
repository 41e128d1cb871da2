/-
  The document's parser: 'fun'.
-/
import Derived.Test.YtpbplpnifjbkoaaDoorRnode
import Derived.Deep.RegionLaw
namespace Go.Proofs.YtpbplpnifjbkoaaDoor
open Go.RowKit

theorem infoPExp : (Tryd.prog.info? 31).map (fun i => (i.zero, i.size, i.bytes)) = some (some (.pointer none), 1, 8) := by kernel_rfl

set_option maxRecDepth 100000 in
set_option maxHeartbeats 2000000 in
theorem rexp_lam {r n : Nat} {ts : List Tok} {w : World} (ih : RExpIH r n) (h : RC r ts (-1) w) (hk : headKind ts = .kFun) (res : Except Nat (Exp × List Tok)) (hres : pExp (n + 1) ts = some res) :
    Calls Tryd.prog 25 #[.pointer (some ⟨r, 0, none⟩)] w (RPost r w id res) := by
  have HC := Lib.hid h
  unfold pExp at hres
  simp only [hk, if_true] at hres
  simp only [want_bindS] at hres
  rw [show (fun ts_1 => bindS (wantS .arrow (.ok ts_1)) fun ts_2 => (pExp n ts_2).bind fun b ts_3 => some (.ok (Exp.lam (headPos ts) (headText (adv ts)) b, ts_3))) = fun ts_1 => (want .arrow ts_1).bind fun _ ts_2 => (pExp n ts_2).bind fun b ts_3 => some (.ok (Exp.lam (headPos ts) (headText (adv ts)) b, ts_3)) from by funext t; rw [want_bindS]] at hres
  rw [bindS_want, bindS_bind] at hres
  obtain ⟨res1, hr1, hr2⟩ := res_next hres
  have HR0 := Lib.hid hr2
  have HR1 := Lib.hid hr1
  obtain ⟨g, n', cap, kk, x, c0, c1, c2, hlt, t0, t1, hx, t2, hn⟩ := h.cells
  have hr : r < w.heap.size := lt_of_cell c0
  have hg : g < w.heap.size := lt_of_cell t0
  have HE := Lib.hid hk
  have HIH := Lib.hid ih
  clear h hx hres hk ih hr1 hr2
  go_enter Tryd.func25, Tryd.ntmps25
  go_wp2_with fail
  go_region
  clear c0 c1 hlt t0 t1 t2 hg
  have K0 := Lib.hid (show Keeps [] w (w.alloc (.cells #[.string ⟨#[]⟩, .slice none 0 0, .slice none 0 0, .int .i64 (headPos ts)] 77)).drew from ((Keeps.refl [] w).alloc _).drew)
  have N0 := Lib.hid (show NSt r w [] (headPos ts) [] [] [] (.slice none 0 0) (.slice none 0 0) (.ok ts) (w.alloc (.cells #[.string ⟨#[]⟩, .slice none 0 0, .slice none 0 0, .int .i64 (headPos ts)] 77)).drew from
    ⟨⟨block_alloc w _, World.ownsRow_nil _ _ _ _, World.ownsRow_nil _ _ _ _⟩, HC.out.keep K0.out, K0.out.mono (by simp), hr, fun _ _ => rfl⟩)
  clear K0
  go_wp2_with fail
  refine (rtake_yes N0.out.st .kFun _ rfl HE.out).mono ?_
  rintro e w1 ⟨rfl, hrc, hk, hc2⟩
  have N1 := Lib.hid (N0.out.step (s' := .ok (adv ts)) hk (hrc (by decide) (by decide)) (fun _ _ => ⟨_, rfl⟩))
  clear hrc hk hc2 N0
  have o0 : w1.cell? ⟨w.heap.size, 0, none⟩ = some (.string ⟨#[]⟩) := cell_of_block N1.out.nd.blk 0
  have f0 : w1.frozen? ⟨w.heap.size, 0, none⟩ = false := free_of_block N1.out.nd.blk 0
  go_wp2_with fail
  clear o0 f0
  have N2 := Lib.hid (N1.out.word oFun).drew
  clear N1
  revert N2
  generalize hW : (w1.setCell ⟨w.heap.size, 0, none⟩ (.string ⟨#[102, 117, 110]⟩)) = W
  rw [show (w1.setCell ⟨w.heap.size, 0, none⟩ (.string (bs oFun))) = W from hW]
  clear hW
  intro N2
  have cn : W.drew.cell? ⟨w.heap.size, 1, none⟩ = some (.slice none 0 0) := cell_of_block N2.out.nd.blk 1
  have bz : w.heap.size < W.drew.heap.size := lt_of_some N2.out.nd.blk
  obtain ⟨ib, hib, hib0, hib1, hib2⟩ := info_parts infoStr
  go_region_law (first
    | (refine step_append_lies _ rfl _ _ 39 rfl (w.heap.size + 1) 9 ib (.string ⟨#[]⟩) 1 16 Tryd.underlying39 hib hib0 hib1 hib2 rfl (by decide) (.slice none 0 0) 0 [] (by simp [Act.eval]) (N3.out.nd.rn.alloc _) ⟨w3.heap.size, 0, none⟩ 1 1 [.string (bs x)] (by simp [Act.eval]) rfl (cells_new w3 [.string (bs x)] 9) (by intro u hu; simp at hu; subst hu; rfl) (by decide) (by decide) (by decide) (by have := lt_of_some N3.out.nd.blk; simp; omega) _ rfl ?_
       intro g5 c5 w5 hown hgr hlg hlt
       have hb5 := (hgr.block _ (show w.heap.size < _ by have := lt_of_some N3.out.nd.blk; simp; omega) (fun e => absurd (N3.out.nd.rn.lt _ e.symm).1 (by omega))).trans (block_alloc_old N3.out.nd.blk)
       have fn5 : w5.frozen? ⟨w.heap.size, 1, none⟩ = false := free_of_block hb5 1
       have cn5 : w5.cell? ⟨w.heap.size, 1, none⟩ = some (.slice none 0 0) := cell_of_block hb5 1
       clear hb5)
    | (go_simp; go_at_call 26; refine (rneed_st N2.out.st .name _ rfl (by decide) (by decide)).mono ?_; rintro e w3 ⟨x, rfl, hst, hk, hx⟩
       have N3 := Lib.hid (N2.out.step hk hst wantS_ok)
       have HX := Lib.hid hx
       have cn3 : w3.cell? ⟨w.heap.size, 1, none⟩ = some (.slice none 0 0) := cell_of_block N3.out.nd.blk 1
       have bz3 : w.heap.size < w3.heap.size := lt_of_some N3.out.nd.blk
       clear hst hk hx))
  all_goals
    have N4 := Lib.hid (show NSt r w oFun (headPos ts) [x] [] [] (.slice (some ⟨g5, 0, none⟩) 1 c5) (.slice none 0 0) (wantS .name (.ok (adv ts))) (w5.setCell ⟨w.heap.size, 1, none⟩ (.slice (some ⟨g5, 0, none⟩) 1 c5)) from
      N3.out.name x ((Keeps.refl [] w3).alloc _) g5 c5 hown hgr (hlg.imp id (fun h => Nat.le_trans (by simp) (Nat.le_of_eq h.symm))))
    clear cn bz hib hib0 hib1 hib2 cn3 bz3 hown hgr hlg hlt fn5 cn5 N3 N2
    go_wp2_with fail
    revert N4
    generalize w5.setCell ⟨w.heap.size, 1, none⟩ (.slice (some ⟨g5, 0, none⟩) 1 c5) = W4
    intro N4
    refine (rneed_st N4.out.st .arrow _ rfl (by decide) (by decide)).mono ?_
    rintro e w_N6 ⟨y_N6, rfl, hst, hk, _⟩
    have N6 := Lib.hid (N4.out.step hk hst wantS_ok).drew
    clear hst hk N4
    go_wp2_with fail
    have cl : w_N6.drew.cell? ⟨w.heap.size, 2, none⟩ = some (.slice none 0 0) := cell_of_block N6.out.nd.blk 2
    have bz : w.heap.size < w_N6.drew.heap.size := lt_of_some N6.out.nd.blk
    obtain ⟨ib, hib, hib0, hib1, hib2⟩ := info_parts infoPExp
    go_region_law (first
      | (refine step_append_lies _ rfl _ _ 75 rfl (w.heap.size + 1) 31 ib (.pointer none) 1 8 Tryd.underlying75 hib hib0 hib1 hib2 rfl (by decide) (.slice none 0 0) 0 [] (by simp [Act.eval]) ((M7.out).nd.rl.alloc _) ⟨u7.heap.size, 0, none⟩ 1 1 [.pointer (some ⟨b7, 0, none⟩)] (by simp [Act.eval]) rfl (cells_new u7 [.pointer (some ⟨b7, 0, none⟩)] 31) (by intro u hu; simp at hu; subst hu; rfl) (by decide) (by unfold maxLen; first | decide | omega) (by first | decide | omega) (by have := lt_of_some (M7.out).nd.blk; simp; omega) _ rfl ?_
         intro g7 c7 v7 hown hgr hlg hlt
         have hb5 := (hgr.block _ (show w.heap.size < _ by have := lt_of_some (M7.out).nd.blk; simp; omega) (fun e => absurd ((M7.out).nd.rl.lt _ e.symm).1 (by omega))).trans (block_alloc_old (M7.out).nd.blk)
         have fn5 : v7.frozen? ⟨w.heap.size, 2, none⟩ = false := free_of_block hb5 2
         have cn5 : v7.cell? ⟨w.heap.size, 2, none⟩ = some (.slice none 0 0) := cell_of_block hb5 2
         clear hb5)
      | (go_simp; go_at_call 25; refine (rexp_st HIH.out N6.out.st HR1.out).mono ?_; rintro e u7 hpost
         obtain ⟨b7, rfl, hk, hst, hv⟩ := hpost.parts
         have M7 := Lib.hid (N6.out.step hk hst (stOf_ok HR1.out))
         have P7 := Lib.hid (And.intro hk (And.intro hst hv))
         have cn3 : u7.cell? ⟨w.heap.size, 2, none⟩ = some (.slice none 0 0) := cell_of_block (M7.out).nd.blk 2
         have bz3 : w.heap.size < u7.heap.size := lt_of_some (M7.out).nd.blk
         clear hst hk hv hpost))
    all_goals
      have NE := Lib.hid (show NSt r w oFun _ [x] [.pointer (some ⟨b7, 0, none⟩)] [expOf res1] (.slice (some ⟨g5, 0, none⟩) 1 c5) (.slice (some ⟨g7, 0, none⟩) 1 c7) (stOf res1) (v7.setCell ⟨w.heap.size, 2, none⟩ (.slice (some ⟨g7, 0, none⟩) 1 c7)) from
        N6.out.part (expOf res1) (.pointer (some ⟨b7, 0, none⟩)) P7.out.1 P7.out.2.1 (fun ts' e => ⟨stOf_ok HR1.out ts' e, P7.out.2.2 ts' e⟩) ((Keeps.refl [] u7).alloc _) g7 c7 hown hgr (hlg.imp id (fun h => Nat.le_trans (by simp) (Nat.le_of_eq h.symm))))
      clear cl bz hib hib0 hib1 hib2 cn3 bz3 hown hgr hlg hlt fn5 cn5 M7 P7 N6
      go_wp2_with fail
      revert NE
      generalize v7.setCell ⟨w.heap.size, 2, none⟩ (.slice (some ⟨g7, 0, none⟩) 1 c7) = X7
      intro NE
      go_wp2
      refine bodyPost_ret (v := .pointer (some ⟨w.heap.size, 0, none⟩)) (by simp [results, Tryd.results25, go_sem]) rfl ⟨NE.out.kp, w.heap.size, rfl, ?_⟩
      have hr2 := HR0.out
      have hst := NE.out.st
      cases res1 with
      | error p =>
        obtain rfl : res = .error p := by simpa [bindS, stOf] using hr2.symm
        exact hst
      | ok q =>
        obtain ⟨b, ts3⟩ := q
        obtain rfl : res = .ok (.lam (headPos ts) (headText (adv ts)) b, ts3) := by simpa [bindS, stOf, expOf] using hr2.symm
        obtain ⟨va, hva, hve⟩ := PartsAt.one (NE.out.bn ts3 rfl)
        obtain ⟨_, rfl⟩ : True ∧ x = headText (adv ts) := by
          refine ⟨trivial, HX.out _ rfl ?_⟩
          have := stOf_ok HR1.out ts3 rfl
          obtain ⟨t', h'⟩ := this
          by_cases hn : headKind (adv ts) = .name
          · exact hn
          · simp [wantS, hn] at h'
        have hn := NE.out.node
        rw [hva] at hn
        exact ⟨⟨rfl, rfl, va, hn, RExpAt.widen (Nat.le_succ _) (Nat.le_refl _) _ _ _ _ hve⟩, hst⟩
end Go.Proofs.YtpbplpnifjbkoaaDoor
