/-
  The document's parser: 'let rec'.
-/
import Derived.Test.YtpbplpnifjbkoaaDoorRlet
import Derived.Deep.RegionLaw
namespace Go.Proofs.YtpbplpnifjbkoaaDoor
open Go.RowKit


theorem rtake_st {r : Nat} {s : Except Nat (List Tok)} {w : World} (h : RSt r s w) (k : Kind) (kb : ByteArray) (hkb : kb = bs (rstr k)) (hn : ∀ ts, s = .ok ts → headKind ts ≠ k) :
    Calls Tryd.prog 49 #[.pointer (some ⟨r, 0, none⟩), .string kb] w fun e w' => e = .returned (.bool false) ∧ Keeps [] w w' := by
  cases s with
  | ok ts => exact rtake_no h k kb hkb (hn ts rfl)
  | error p => obtain ⟨ts, h⟩ := h; exact rtake_bad h kb

/-- One binding of a group, by states. -/
theorem rec_step {k : Nat} {es : List (Bytes × Exp)} {ts0 : List Tok} {G : Exp → Exp} {res : Except Nat (Exp × List Tok)} (h : ((pRec (k + 1) (es.map (·.1)) ts0).bind fun g ts => some (.ok (G (wrap es g), ts))) = some res) :
    ∃ res1, bindS (wantS .eqs (dupS (es.map (·.1)) (.ok ts0) (wantS .name (.ok ts0)))) (pExp k) = some res1 ∧ ∀ x, (headKind ts0 = .name → x = headText ts0) →
      bindS (stOf res1) (fun ts => if headKind ts = .kAnd then (pRec k ((es ++ [(x, expOf res1)]).map (·.1)) (adv ts)).bind (fun g ts => some (.ok (G (wrap (es ++ [(x, expOf res1)]) g), ts)))
        else (want .kIn ts).bind fun _ ts => (pExp k ts).bind fun b ts => some (.ok (G (wrap (es ++ [(x, expOf res1)]) (.fin b)), ts))) = some res := by
  simp only [pRec, Res.bind_assoc] at h
  rw [want_bindS] at h
  by_cases hn : headKind ts0 = .name
  · by_cases hm : headText ts0 ∈ es.map (·.1)
    · simp only [wantS, hn, hm, if_true, bindS, Res.bind, Option.some.injEq] at h
      refine ⟨.error (headPos ts0), by simp only [dupS, wantS, hn, hm, if_true, bindS], fun x _ => ?_⟩
      simp only [stOf, bindS, h]
    · simp only [wantS, hn, hm, if_true, if_false, bindS, Res.bind_assoc] at h
      have hd : dupS (es.map (·.1)) (.ok ts0) (wantS .name (.ok ts0)) = .ok (adv ts0) := by simp only [dupS, wantS, hn, if_true, hm, if_false]
      rw [hd]
      rw [want_bindS, bindS_bind] at h
      obtain ⟨res1, h1, h2⟩ := res_next h
      refine ⟨res1, h1, fun x hx => ?_⟩
      rw [← h2, hx hn]
      congr 1
      funext ts
      by_cases ha : headKind ts = .kAnd
      · simp only [ha, if_true, Res.bind_assoc]
        rw [show (es ++ [(headText ts0, expOf res1)]).map (·.1) = es.map (·.1) ++ [headText ts0] by simp]
        congr 1
        funext g ts
        simp [Res.bind, wrap_snoc]
      · simp only [ha, if_false, Res.bind_assoc]
        congr 1
        funext _ ts
        congr 1
        funext b ts
        simp [Res.bind, wrap_snoc]
  · simp only [wantS, hn, if_false, bindS, Option.some.injEq] at h
    refine ⟨.error (headPos ts0), by simp only [dupS, wantS, hn, if_false, bindS], fun x _ => ?_⟩
    simp only [stOf, bindS, h]

set_option maxRecDepth 100000 in
set_option maxHeartbeats 4000000 in
theorem rexp_rec {r n : Nat} {ts : List Tok} {w : World} (hn0 : n ≤ 60000) (ih : ∀ m, m ≤ n → RExpIH r m) (h : RC r ts (-1) w) (hk : headKind ts = .kLet) (hk2 : headKind (adv ts) = .kRec) (res : Except Nat (Exp × List Tok)) (hres : pExp (n + 1) ts = some res) :
    Calls Tryd.prog 25 #[.pointer (some ⟨r, 0, none⟩)] w (RPost r w id res) := by
  have HC := Lib.hid h
  unfold pExp at hres
  simp only [hk, hk2, if_true, reduceCtorEq, if_false] at hres
  obtain ⟨k0, rfl⟩ : ∃ k, n = k + 1 := by
    cases n with
    | zero => simp [pRec, Res.bind] at hres
    | succ k => exact ⟨k, rfl⟩
  obtain ⟨res0, hr1, hr2⟩ := rec_step (es := []) (G := Exp.recr (headPos ts)) hres
  have HR1 := Lib.hid (show bindS (wantS .eqs (dupS [] (.ok (adv (adv ts))) (wantS .name (.ok (adv (adv ts)))))) (pExp k0) = some res0 from hr1)
  have HR2 := Lib.hid hr2
  have HE2 := Lib.hid hk2
  obtain ⟨g, n', cap, kk, x, c0, c1, c2, hlt, t0, t1, hx, t2, hn⟩ := h.cells
  have hr : r < w.heap.size := lt_of_cell c0
  have hg : g < w.heap.size := lt_of_cell t0
  have HE := Lib.hid hk
  have HIH := Lib.hid ih
  clear h hx hres hk ih hr1 hr2 hk2
  go_enter Tryd.func25, Tryd.ntmps25
  go_wp2_with fail
  go_region
  clear c0 c1 hlt t0 t1 t2 hg
  have K0 := Lib.hid (show Keeps [] w (w.alloc (.cells #[.string ⟨#[]⟩, .slice none 0 0, .slice none 0 0, .int .i64 (headPos ts)] 77)).drew from ((Keeps.refl [] w).alloc _).drew)
  have N0 := Lib.hid (show NSt r w [] (headPos ts) [] [] [] (.slice none 0 0) (.slice none 0 0) (.ok ts) (w.alloc (.cells #[.string ⟨#[]⟩, .slice none 0 0, .slice none 0 0, .int .i64 (headPos ts)] 77)).drew from
    ⟨⟨block_alloc w _, World.ownsRow_nil _ _ _ _, World.ownsRow_nil _ _ _ _⟩, HC.out.keep K0.out, K0.out.mono (by simp), hr, fun _ _ => rfl⟩)
  clear K0
  go_wp2_with fail
  refine (rtake_no N0.out.st .kFun _ rfl (by rw [HE.out]; decide)).mono ?_
  rintro e w_kFun ⟨rfl, hk⟩
  have N00 := Lib.hid (N0.out.step (hk.mono (by simp)) (N0.out.st.keep hk) (fun ts' e => ⟨ts', e⟩))
  clear hk N0
  go_wp2_with fail
  refine (rtake_no N00.out.st .kIf _ rfl (by rw [HE.out]; decide)).mono ?_
  rintro e w_kIf ⟨rfl, hk⟩
  have N000 := Lib.hid (N00.out.step (hk.mono (by simp)) (N00.out.st.keep hk) (fun ts' e => ⟨ts', e⟩))
  clear hk N00
  go_wp2_with fail
  refine (rtake_yes N000.out.st .kLet _ rfl HE.out).mono ?_
  rintro e w1 ⟨rfl, hrc, hk, hc2⟩
  have N1 := Lib.hid (N000.out.step (s' := .ok (adv ts)) hk (hrc (by decide) (by decide)) (fun _ _ => ⟨_, rfl⟩))
  clear hrc hk hc2 N000
  have o0 : w1.cell? ⟨w.heap.size, 0, none⟩ = some (.string ⟨#[]⟩) := cell_of_block N1.out.nd.blk 0
  have f0 : w1.frozen? ⟨w.heap.size, 0, none⟩ = false := free_of_block N1.out.nd.blk 0
  go_wp2_with fail
  clear o0 f0
  have N2 := Lib.hid (N1.out.word oLet)
  clear N1
  revert N2
  generalize hW : (w1.setCell ⟨w.heap.size, 0, none⟩ (.string ⟨#[108, 101, 116]⟩)) = W
  rw [show (w1.setCell ⟨w.heap.size, 0, none⟩ (.string (bs oLet))) = W from hW]
  clear hW
  intro N2
  refine (rtake_yes N2.out.st .kRec _ rfl HE2.out).mono ?_
  rintro e w2 ⟨rfl, hrc, hk, hc2⟩
  have N3 := Lib.hid (N2.out.step (s' := .ok (adv (adv ts))) hk (hrc (by decide) (by decide)) (fun _ _ => ⟨_, rfl⟩))
  clear hrc hk hc2 N2
  have o0 : w2.cell? ⟨w.heap.size, 0, none⟩ = some (.string ⟨#[108, 101, 116]⟩) := cell_of_block N3.out.nd.blk 0
  have f0 : w2.frozen? ⟨w.heap.size, 0, none⟩ = false := free_of_block N3.out.nd.blk 0
  go_wp2_with fail
  clear o0 f0
  have N4 := Lib.hid (N3.out.word oRec)
  clear N3
  revert N4
  generalize hW : (w2.setCell ⟨w.heap.size, 0, none⟩ (.string ⟨#[114, 101, 99]⟩)) = W2
  rw [show (w2.setCell ⟨w.heap.size, 0, none⟩ (.string (bs oRec))) = W2 from hW]
  clear hW
  intro N4
  refine (rbound_any (HIH.out k0 (by omega)) N4.out (by simp) (by simp) HR1.out).mono ?_
  rintro e w3 ⟨rfl, sn, sl, x, va, hst, hx⟩
  have N5 := Lib.hid hst
  have HX := Lib.hid (hx _ rfl)
  clear hst hx N4
  go_wp2_with fail
  go_loopg [] k0 (fun gg wx => ∃ es vs sn sl s, NSt r w oRec (headPos ts) (es.map (·.1)) vs (es.map (·.2)) sn sl s wx ∧ gg + es.length ≤ 60000 ∧ es.length = vs.length ∧ gg ≤ k0 ∧
      bindS s (fun ts' => if headKind ts' = .kAnd then (pRec gg (es.map (·.1)) (adv ts')).bind (fun g ts' => some (.ok (Exp.recr (headPos ts) (wrap es g), ts')))
        else (want .kIn ts').bind fun _ ts' => (pExp gg ts').bind fun b ts' => some (.ok (Exp.recr (headPos ts) (wrap es (.fin b)), ts'))) = some res)
  case atStart => exact ⟨[(x, expOf res0)], _, sn, sl, _, N5.out, by simp; omega, rfl, Nat.le_refl _, HR2.out x HX.out⟩
  case round =>
    obtain ⟨es, vs, sn, sl, s, hst, hm, hev, hgk, hR⟩ := hrel
    have N6 := Lib.hid hst
    have HR := Lib.hid hR
    have HEV := Lib.hid hev
    have o0 : wr.cell? ⟨w.heap.size, 0, none⟩ = some (.string ⟨#[114, 101, 99]⟩) := cell_of_block N6.out.nd.blk 0
    clear hst hR hev N5
    go_wp2_with fail
    by_cases hand : ∃ ts', s = .ok ts' ∧ headKind ts' = .kAnd
    · obtain ⟨ts', rfl, hka⟩ := hand
      have HKA := Lib.hid hka
      have hR := HR.out
      simp only [bindS, hka, if_true] at hR
      obtain ⟨k, rfl⟩ : ∃ k, gk = k + 1 := by
        cases gk with
        | zero => simp [pRec, Res.bind] at hR
        | succ k => exact ⟨k, rfl⟩
      obtain ⟨res1, hr1, hr2⟩ := rec_step (G := Exp.recr (headPos ts)) hR
      have HS1 := Lib.hid hr1
      have HS2 := Lib.hid hr2
      clear hr1 hr2 hR hka
      refine (rtake_yes N6.out.st .kAnd _ rfl HKA.out).mono ?_
      rintro e w4 ⟨rfl, hrc, hk, hc2⟩
      have N7 := Lib.hid (N6.out.step (s' := .ok (adv ts')) hk (hrc (by decide) (by decide)) (fun _ _ => ⟨_, rfl⟩))
      clear hrc hk hc2 N6 o0
      go_wp2_with fail
      refine (rbound_any (HIH.out k (by omega)) N7.out (by simp; omega) (by have := HEV.out; omega) HS1.out).mono ?_
      rintro e w5 ⟨rfl, sn', sl', x', va', hst, hx⟩
      have N8 := Lib.hid hst
      have HX' := Lib.hid (hx _ rfl)
      clear hst hx N7
      go_wp2_with fail
      go_roundg k
      case measure => omega
      case rel => exact ⟨es ++ [(x', expOf res1)], vs ++ [va'], sn', sl', _, by simpa using N8.out, by simp; omega, by simp [HEV.out], by omega, HS2.out x' HX'.out⟩
    · have hn : ∀ ts', s = .ok ts' → headKind ts' ≠ .kAnd := fun ts' h h' => hand ⟨ts', h, h'⟩
      have hR := HR.out
      have hR2 : bindS s (fun ts' => (want .kIn ts').bind fun _ ts' => (pExp gk ts').bind fun b ts' => some (.ok (Exp.recr (headPos ts) (wrap es (.fin b)), ts'))) = some res := by
        rw [← hR]
        cases s with
        | error p => rfl
        | ok ts' => simp only [bindS, hn ts' rfl, if_false]
      rw [bindS_want, bindS_bind] at hR2
      obtain ⟨res1, hr1, hr2⟩ := res_next hR2
      have HS1 := Lib.hid hr1
      have HS2 := Lib.hid hr2
      clear hR hR2 hr1 hr2
      refine (rtake_st N6.out.st .kAnd _ rfl hn).mono ?_
      rintro e w4 ⟨rfl, hk⟩
      have N7 := Lib.hid (N6.out.step (hk.mono (by simp)) (N6.out.st.keep hk) (fun ts' e => ⟨ts', e⟩))
      clear hk N6 o0 hn hand HR
      have HIHk := Lib.hid (HIH.out gk (by omega))
      go_wp2_with fail
      refine (rneed_st N7.out.st .kIn _ rfl (by decide) (by decide)).mono ?_
      rintro e w_N8 ⟨y_N8, rfl, hst, hk, _⟩
      have N8 := Lib.hid (N7.out.step hk hst wantS_ok).drew
      clear hst hk N7
      go_wp2_with fail
      have cl : w_N8.drew.cell? ⟨w.heap.size, 2, none⟩ = some (sl) := cell_of_block N8.out.nd.blk 2
      have bz : w.heap.size < w_N8.drew.heap.size := lt_of_some N8.out.nd.blk
      obtain ⟨ib, hib, hib0, hib1, hib2⟩ := info_parts infoPExp
      go_region_law (first
        | (refine step_append_lies _ rfl _ _ 75 rfl (w.heap.size + 1) 31 ib (.pointer none) 1 8 Tryd.underlying75 hib hib0 hib1 hib2 rfl (by decide) (sl) vs.length vs (by simp [Act.eval]) ((M7.out).nd.rl.alloc _) ⟨u7.heap.size, 0, none⟩ 1 1 [.pointer (some ⟨b7, 0, none⟩)] (by simp [Act.eval]) rfl (cells_new u7 [.pointer (some ⟨b7, 0, none⟩)] 31) (by intro u hu; simp at hu; subst hu; rfl) (by decide) (by have := HEV.out; unfold maxLen; omega) (by have := HEV.out; omega) (by have := lt_of_some (M7.out).nd.blk; simp; omega) _ rfl ?_
           intro g7 c7 v7 hown hgr hlg hlt
           have hb5 := (hgr.block _ (show w.heap.size < _ by have := lt_of_some (M7.out).nd.blk; simp; omega) (fun e => absurd ((M7.out).nd.rl.lt _ e.symm).1 (by omega))).trans (block_alloc_old (M7.out).nd.blk)
           have fn5 : v7.frozen? ⟨w.heap.size, 2, none⟩ = false := free_of_block hb5 2
           have cn5 : v7.cell? ⟨w.heap.size, 2, none⟩ = some (sl) := cell_of_block hb5 2
           clear hb5)
        | (go_simp; go_at_call 25; refine (rexp_st HIHk.out N8.out.st HS1.out).mono ?_; rintro e u7 hpost
           obtain ⟨b7, rfl, hk, hst, hv⟩ := hpost.parts
           have M7 := Lib.hid (N8.out.step hk hst (stOf_ok HS1.out))
           have P7 := Lib.hid (And.intro hk (And.intro hst hv))
           have cn3 : u7.cell? ⟨w.heap.size, 2, none⟩ = some (sl) := cell_of_block (M7.out).nd.blk 2
           have bz3 : w.heap.size < u7.heap.size := lt_of_some (M7.out).nd.blk
           clear hst hk hv hpost))
      all_goals
        have NE := Lib.hid (show NSt r w oRec _ (es.map (·.1)) (vs ++ [.pointer (some ⟨b7, 0, none⟩)]) (es.map (·.2) ++ [expOf res1]) sn (.slice (some ⟨g7, 0, none⟩) (vs.length + 1) c7) (stOf res1) (v7.setCell ⟨w.heap.size, 2, none⟩ (.slice (some ⟨g7, 0, none⟩) (vs.length + 1) c7)) from
          N8.out.part (expOf res1) (.pointer (some ⟨b7, 0, none⟩)) P7.out.1 P7.out.2.1 (fun ts' e => ⟨stOf_ok HS1.out ts' e, P7.out.2.2 ts' e⟩) ((Keeps.refl [] u7).alloc _) g7 c7 hown hgr (hlg.imp id (fun h => Nat.le_trans (by simp) (Nat.le_of_eq h.symm))))
        clear cl bz hib hib0 hib1 hib2 cn3 bz3 hown hgr hlg hlt fn5 cn5 M7 P7 N8
        go_wp2_with fail
        revert NE
        generalize v7.setCell ⟨w.heap.size, 2, none⟩ (.slice (some ⟨g7, 0, none⟩) (vs.length + 1) c7) = X7
        intro NE
        go_wp2
        refine bodyPost_ret (v := .pointer (some ⟨w.heap.size, 0, none⟩)) (by simp [results, Tryd.results25, go_sem]) rfl ⟨NE.out.kp, w.heap.size, rfl, ?_⟩
        have hr2 := HS2.out
        have hst := NE.out.st
        cases res1 with
        | error p =>
          obtain rfl : res = .error p := by simpa [bindS, stOf] using hr2.symm
          exact hst
        | ok q =>
          obtain ⟨b, ts3⟩ := q
          obtain rfl : res = .ok (.recr (headPos ts) (wrap es (.fin b)), ts3) := by simpa [bindS, stOf, expOf] using hr2.symm
          obtain ⟨vs', vf, e1, hg⟩ := PartsAt.group (NE.out.bn ts3 rfl)
          have hn := NE.out.node
          rw [e1] at hn
          exact ⟨⟨rfl, rfl, _, vs', vf, hn, RExpAt.widen (Nat.le_succ _) (Nat.le_refl _) _ _ _ _ hg⟩, hst⟩
end Go.Proofs.YtpbplpnifjbkoaaDoor
