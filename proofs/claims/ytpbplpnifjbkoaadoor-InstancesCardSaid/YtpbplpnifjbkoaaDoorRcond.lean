/-
  The document's parser: 'if'.
-/
import Derived.Test.YtpbplpnifjbkoaaDoorRlam
import Derived.Deep.RegionLaw
namespace Go.Proofs.YtpbplpnifjbkoaaDoor
open Go.RowKit

set_option maxRecDepth 100000 in
set_option maxHeartbeats 4000000 in
theorem rexp_cond {r n : Nat} {ts : List Tok} {w : World} (ih : RExpIH r n) (h : RC r ts (-1) w) (hk : headKind ts = .kIf) (res : Except Nat (Exp × List Tok)) (hres : pExp (n + 1) ts = some res) :
    Calls Tryd.prog 25 #[.pointer (some ⟨r, 0, none⟩)] w (RPost r w id res) := by
  have HC := Lib.hid h
  unfold pExp at hres
  simp only [hk, if_true, reduceCtorEq, if_false] at hres
  obtain ⟨res1, hr1, hres⟩ := res_next hres
  rw [bindS_want, bindS_bind] at hres
  obtain ⟨res2, hr2, hres⟩ := res_next hres
  rw [bindS_want, bindS_bind] at hres
  obtain ⟨res3, hr3, hres⟩ := res_next hres
  have HR0 := Lib.hid hres
  have HR1 := Lib.hid (show bindS (.ok (adv ts)) (pExp n) = some res1 from hr1)
  have HR2 := Lib.hid hr2
  have HR3 := Lib.hid hr3
  obtain ⟨g, n', cap, kk, x, c0, c1, c2, hlt, t0, t1, hx, t2, hn⟩ := h.cells
  have hr : r < w.heap.size := lt_of_cell c0
  have hg : g < w.heap.size := lt_of_cell t0
  have HE := Lib.hid hk
  have HIH := Lib.hid ih
  clear h hx hres hk ih hr1 hr2 hr3
  go_enter Tryd.func25, Tryd.ntmps25
  go_wp2_with fail
  go_region
  clear c0 c1 hlt t0 t1 t2 hg
  have K0 := Lib.hid (show Keeps [] w (w.alloc (.cells #[.string ⟨#[]⟩, .slice none 0 0, .slice none 0 0, .int .i64 (headPos ts)] 77)).drew from ((Keeps.refl [] w).alloc _).drew)
  have N0 := Lib.hid (show NSt r w [] (headPos ts) [] [] [] (.slice none 0 0) (.slice none 0 0) (.ok ts) (w.alloc (.cells #[.string ⟨#[]⟩, .slice none 0 0, .slice none 0 0, .int .i64 (headPos ts)] 77)).drew from
    ⟨⟨block_alloc w _, World.ownsRow_nil _ _ _ _, World.ownsRow_nil _ _ _ _⟩, HC.out.keep K0.out, K0.out.mono (by simp), hr, fun _ _ => rfl⟩)
  clear K0
  go_wp2_with fail
  refine (rtake_no N0.out.st .kFun _ rfl (by rw [HE.out]; decide)).mono ?_
  rintro e w_kFun ⟨rfl, hk⟩
  have N00 := Lib.hid (N0.out.step (hk.mono (by simp)) (N0.out.st.keep hk) (fun ts' e => ⟨ts', e⟩))
  clear hk N0
  go_wp2_with fail
  refine (rtake_yes N00.out.st .kIf _ rfl HE.out).mono ?_
  rintro e w1 ⟨rfl, hrc, hk, hc2⟩
  have N1 := Lib.hid (N00.out.step (s' := .ok (adv ts)) hk (hrc (by decide) (by decide)) (fun _ _ => ⟨_, rfl⟩))
  clear hrc hk hc2 N00
  have o0 : w1.cell? ⟨w.heap.size, 0, none⟩ = some (.string ⟨#[]⟩) := cell_of_block N1.out.nd.blk 0
  have f0 : w1.frozen? ⟨w.heap.size, 0, none⟩ = false := free_of_block N1.out.nd.blk 0
  go_wp2_with fail
  clear o0 f0
  have N2 := Lib.hid (N1.out.word oIf).drew
  clear N1
  revert N2
  generalize hW : (w1.setCell ⟨w.heap.size, 0, none⟩ (.string ⟨#[105, 102]⟩)) = W
  rw [show (w1.setCell ⟨w.heap.size, 0, none⟩ (.string (bs oIf))) = W from hW]
  clear hW
  intro N2
  have cl : W.drew.cell? ⟨w.heap.size, 2, none⟩ = some (.slice none 0 0) := cell_of_block N2.out.nd.blk 2
  have bz : w.heap.size < W.drew.heap.size := lt_of_some N2.out.nd.blk
  obtain ⟨ib, hib, hib0, hib1, hib2⟩ := info_parts infoPExp
  go_region_law (first
    | (refine step_append_lies _ rfl _ _ 75 rfl (w.heap.size + 1) 31 ib (.pointer none) 1 8 Tryd.underlying75 hib hib0 hib1 hib2 rfl (by decide) (.slice none 0 0) 0 [] (by simp [Act.eval]) ((M3.out).nd.rl.alloc _) ⟨u3.heap.size, 0, none⟩ 1 1 [.pointer (some ⟨b3, 0, none⟩)] (by simp [Act.eval]) rfl (cells_new u3 [.pointer (some ⟨b3, 0, none⟩)] 31) (by intro u hu; simp at hu; subst hu; rfl) (by decide) (by unfold maxLen; first | decide | omega) (by first | decide | omega) (by have := lt_of_some (M3.out).nd.blk; simp; omega) _ rfl ?_
       intro g3 c3 v3 hown hgr hlg hlt
       have hb5 := (hgr.block _ (show w.heap.size < _ by have := lt_of_some (M3.out).nd.blk; simp; omega) (fun e => absurd ((M3.out).nd.rl.lt _ e.symm).1 (by omega))).trans (block_alloc_old (M3.out).nd.blk)
       have fn5 : v3.frozen? ⟨w.heap.size, 2, none⟩ = false := free_of_block hb5 2
       have cn5 : v3.cell? ⟨w.heap.size, 2, none⟩ = some (.slice none 0 0) := cell_of_block hb5 2
       clear hb5)
    | (go_simp; go_at_call 25; refine (rexp_st HIH.out N2.out.st HR1.out).mono ?_; rintro e u3 hpost
       obtain ⟨b3, rfl, hk, hst, hv⟩ := hpost.parts
       have M3 := Lib.hid (N2.out.step hk hst (stOf_ok HR1.out))
       have P3 := Lib.hid (And.intro hk (And.intro hst hv))
       have cn3 : u3.cell? ⟨w.heap.size, 2, none⟩ = some (.slice none 0 0) := cell_of_block (M3.out).nd.blk 2
       have bz3 : w.heap.size < u3.heap.size := lt_of_some (M3.out).nd.blk
       clear hst hk hv hpost))
  all_goals
    have N3 := Lib.hid (show NSt r w oIf _ [] [.pointer (some ⟨b3, 0, none⟩)] [expOf res1] (.slice none 0 0) (.slice (some ⟨g3, 0, none⟩) 1 c3) (stOf res1) (v3.setCell ⟨w.heap.size, 2, none⟩ (.slice (some ⟨g3, 0, none⟩) 1 c3)) from
      N2.out.part (expOf res1) (.pointer (some ⟨b3, 0, none⟩)) P3.out.1 P3.out.2.1 (fun ts' e => ⟨stOf_ok HR1.out ts' e, P3.out.2.2 ts' e⟩) ((Keeps.refl [] u3).alloc _) g3 c3 hown hgr (hlg.imp id (fun h => Nat.le_trans (by simp) (Nat.le_of_eq h.symm))))
    clear cl bz hib hib0 hib1 hib2 cn3 bz3 hown hgr hlg hlt fn5 cn5 M3 P3 N2
    go_wp2_with fail
    revert N3
    generalize v3.setCell ⟨w.heap.size, 2, none⟩ (.slice (some ⟨g3, 0, none⟩) 1 c3) = X3
    intro N3
    refine (rneed_st N3.out.st .kThen _ rfl (by decide) (by decide)).mono ?_
    rintro e w_N4 ⟨y_N4, rfl, hst, hk, _⟩
    have N4 := Lib.hid (N3.out.step hk hst wantS_ok).drew
    clear hst hk N3
    go_wp2_with fail
    have cl : w_N4.drew.cell? ⟨w.heap.size, 2, none⟩ = some (.slice (some ⟨g3, 0, none⟩) 1 c3) := cell_of_block N4.out.nd.blk 2
    have bz : w.heap.size < w_N4.drew.heap.size := lt_of_some N4.out.nd.blk
    obtain ⟨ib, hib, hib0, hib1, hib2⟩ := info_parts infoPExp
    go_region_law (first
      | (refine step_append_lies _ rfl _ _ 75 rfl (w.heap.size + 1) 31 ib (.pointer none) 1 8 Tryd.underlying75 hib hib0 hib1 hib2 rfl (by decide) (.slice (some ⟨g3, 0, none⟩) 1 c3) 1 [.pointer (some ⟨b3, 0, none⟩)] (by simp [Act.eval]) ((M5.out).nd.rl.alloc _) ⟨u5.heap.size, 0, none⟩ 1 1 [.pointer (some ⟨b5, 0, none⟩)] (by simp [Act.eval]) rfl (cells_new u5 [.pointer (some ⟨b5, 0, none⟩)] 31) (by intro u hu; simp at hu; subst hu; rfl) (by decide) (by unfold maxLen; first | decide | omega) (by first | decide | omega) (by have := lt_of_some (M5.out).nd.blk; simp; omega) _ rfl ?_
         intro g5 c5 v5 hown hgr hlg hlt
         have hb5 := (hgr.block _ (show w.heap.size < _ by have := lt_of_some (M5.out).nd.blk; simp; omega) (fun e => absurd ((M5.out).nd.rl.lt _ e.symm).1 (by omega))).trans (block_alloc_old (M5.out).nd.blk)
         have fn5 : v5.frozen? ⟨w.heap.size, 2, none⟩ = false := free_of_block hb5 2
         have cn5 : v5.cell? ⟨w.heap.size, 2, none⟩ = some (.slice (some ⟨g3, 0, none⟩) 1 c3) := cell_of_block hb5 2
         clear hb5)
      | (go_simp; go_at_call 25; refine (rexp_st HIH.out N4.out.st HR2.out).mono ?_; rintro e u5 hpost
         obtain ⟨b5, rfl, hk, hst, hv⟩ := hpost.parts
         have M5 := Lib.hid (N4.out.step hk hst (stOf_ok HR2.out))
         have P5 := Lib.hid (And.intro hk (And.intro hst hv))
         have cn3 : u5.cell? ⟨w.heap.size, 2, none⟩ = some (.slice (some ⟨g3, 0, none⟩) 1 c3) := cell_of_block (M5.out).nd.blk 2
         have bz3 : w.heap.size < u5.heap.size := lt_of_some (M5.out).nd.blk
         clear hst hk hv hpost))
    all_goals
      have N5 := Lib.hid (show NSt r w oIf _ [] [.pointer (some ⟨b3, 0, none⟩), .pointer (some ⟨b5, 0, none⟩)] [expOf res1, expOf res2] (.slice none 0 0) (.slice (some ⟨g5, 0, none⟩) 2 c5) (stOf res2) (v5.setCell ⟨w.heap.size, 2, none⟩ (.slice (some ⟨g5, 0, none⟩) 2 c5)) from
        N4.out.part (expOf res2) (.pointer (some ⟨b5, 0, none⟩)) P5.out.1 P5.out.2.1 (fun ts' e => ⟨stOf_ok HR2.out ts' e, P5.out.2.2 ts' e⟩) ((Keeps.refl [] u5).alloc _) g5 c5 hown hgr (hlg.imp id (fun h => Nat.le_trans (by simp) (Nat.le_of_eq h.symm))))
      clear cl bz hib hib0 hib1 hib2 cn3 bz3 hown hgr hlg hlt fn5 cn5 M5 P5 N4
      go_wp2_with fail
      revert N5
      generalize v5.setCell ⟨w.heap.size, 2, none⟩ (.slice (some ⟨g5, 0, none⟩) 2 c5) = X5
      intro N5
      refine (rneed_st N5.out.st .kElse _ rfl (by decide) (by decide)).mono ?_
      rintro e w_N6 ⟨y_N6, rfl, hst, hk, _⟩
      have N6 := Lib.hid (N5.out.step hk hst wantS_ok).drew
      clear hst hk N5
      go_wp2_with fail
      have cl : w_N6.drew.cell? ⟨w.heap.size, 2, none⟩ = some (.slice (some ⟨g5, 0, none⟩) 2 c5) := cell_of_block N6.out.nd.blk 2
      have bz : w.heap.size < w_N6.drew.heap.size := lt_of_some N6.out.nd.blk
      obtain ⟨ib, hib, hib0, hib1, hib2⟩ := info_parts infoPExp
      go_region_law (first
        | (refine step_append_lies _ rfl _ _ 75 rfl (w.heap.size + 1) 31 ib (.pointer none) 1 8 Tryd.underlying75 hib hib0 hib1 hib2 rfl (by decide) (.slice (some ⟨g5, 0, none⟩) 2 c5) 2 [.pointer (some ⟨b3, 0, none⟩), .pointer (some ⟨b5, 0, none⟩)] (by simp [Act.eval]) ((M7.out).nd.rl.alloc _) ⟨u7.heap.size, 0, none⟩ 1 1 [.pointer (some ⟨b7, 0, none⟩)] (by simp [Act.eval]) rfl (cells_new u7 [.pointer (some ⟨b7, 0, none⟩)] 31) (by intro u hu; simp at hu; subst hu; rfl) (by decide) (by unfold maxLen; first | decide | omega) (by first | decide | omega) (by have := lt_of_some (M7.out).nd.blk; simp; omega) _ rfl ?_
           intro g7 c7 v7 hown hgr hlg hlt
           have hb5 := (hgr.block _ (show w.heap.size < _ by have := lt_of_some (M7.out).nd.blk; simp; omega) (fun e => absurd ((M7.out).nd.rl.lt _ e.symm).1 (by omega))).trans (block_alloc_old (M7.out).nd.blk)
           have fn5 : v7.frozen? ⟨w.heap.size, 2, none⟩ = false := free_of_block hb5 2
           have cn5 : v7.cell? ⟨w.heap.size, 2, none⟩ = some (.slice (some ⟨g5, 0, none⟩) 2 c5) := cell_of_block hb5 2
           clear hb5)
        | (go_simp; go_at_call 25; refine (rexp_st HIH.out N6.out.st HR3.out).mono ?_; rintro e u7 hpost
           obtain ⟨b7, rfl, hk, hst, hv⟩ := hpost.parts
           have M7 := Lib.hid (N6.out.step hk hst (stOf_ok HR3.out))
           have P7 := Lib.hid (And.intro hk (And.intro hst hv))
           have cn3 : u7.cell? ⟨w.heap.size, 2, none⟩ = some (.slice (some ⟨g5, 0, none⟩) 2 c5) := cell_of_block (M7.out).nd.blk 2
           have bz3 : w.heap.size < u7.heap.size := lt_of_some (M7.out).nd.blk
           clear hst hk hv hpost))
      all_goals
        have NE := Lib.hid (show NSt r w oIf _ [] [.pointer (some ⟨b3, 0, none⟩), .pointer (some ⟨b5, 0, none⟩), .pointer (some ⟨b7, 0, none⟩)] [expOf res1, expOf res2, expOf res3] (.slice none 0 0) (.slice (some ⟨g7, 0, none⟩) 3 c7) (stOf res3) (v7.setCell ⟨w.heap.size, 2, none⟩ (.slice (some ⟨g7, 0, none⟩) 3 c7)) from
          N6.out.part (expOf res3) (.pointer (some ⟨b7, 0, none⟩)) P7.out.1 P7.out.2.1 (fun ts' e => ⟨stOf_ok HR3.out ts' e, P7.out.2.2 ts' e⟩) ((Keeps.refl [] u7).alloc _) g7 c7 hown hgr (hlg.imp id (fun h => Nat.le_trans (by simp) (Nat.le_of_eq h.symm))))
        clear cl bz hib hib0 hib1 hib2 cn3 bz3 hown hgr hlg hlt fn5 cn5 M7 P7 N6
        go_wp2_with fail
        revert NE
        generalize v7.setCell ⟨w.heap.size, 2, none⟩ (.slice (some ⟨g7, 0, none⟩) 3 c7) = X7
        intro NE
        go_wp2
        refine bodyPost_ret (v := .pointer (some ⟨w.heap.size, 0, none⟩)) (by simp [results, Tryd.results25, go_sem]) rfl ⟨NE.out.kp, w.heap.size, rfl, ?_⟩
        have hr2 := HR0.out
        have hst := NE.out.st
        cases res3 with
        | error p =>
          obtain rfl : res = .error p := by simpa [bindS, stOf] using hr2.symm
          exact hst
        | ok q =>
          obtain ⟨b, ts3⟩ := q
          obtain rfl : res = .ok (.cond (headPos ts) (expOf res1) (expOf res2) b, ts3) := by simpa [bindS, stOf, expOf] using hr2.symm
          obtain ⟨v1, vs1, e1, h1, hp⟩ := PartsAt.cons (NE.out.bn ts3 rfl)
          obtain ⟨v2, vs2, e2, h2, hp⟩ := PartsAt.cons hp
          obtain ⟨v3, e3, h3⟩ := PartsAt.one hp
          subst e3 e2
          have hn := NE.out.node
          rw [e1] at hn
          exact ⟨⟨rfl, rfl, v1, v2, v3, hn, RExpAt.widen (Nat.le_succ _) (Nat.le_refl _) _ _ _ _ h1, RExpAt.widen (Nat.le_succ _) (Nat.le_refl _) _ _ _ _ h2, RExpAt.widen (Nat.le_succ _) (Nat.le_refl _) _ _ _ _ h3⟩, hst⟩
end Go.Proofs.YtpbplpnifjbkoaaDoor
