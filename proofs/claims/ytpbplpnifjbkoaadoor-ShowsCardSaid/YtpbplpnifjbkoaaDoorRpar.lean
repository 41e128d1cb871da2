/-
  The document's atom in brackets: one expression, or a pair.
-/
import Derived.Test.YtpbplpnifjbkoaaDoorRapp
import Derived.Test.YtpbplpnifjbkoaaDoorRat
namespace Go.Proofs.YtpbplpnifjbkoaaDoor
open Go.RowKit

set_option maxRecDepth 100000 in
set_option maxHeartbeats 4000000 in
theorem ratom_par {r n : Nat} {ts : List Tok} {w : World} (ih : RExpIH r n) (h : RC r ts (-1) w) (hk : headKind ts = .lpar) (res : Except Nat (Exp × List Tok)) (hres : pAtom (n + 1) ts = some res) :
    Calls Tryd.prog 51 #[.pointer (some ⟨r, 0, none⟩)] w (RPost r w id res) := by
  have HC := Lib.hid h
  unfold pAtom at hres
  simp only [hk, reduceCtorEq, if_false] at hres
  rw [want_bindS] at hres
  simp only [wantS, hk, if_true, bindS] at hres
  obtain ⟨res1, hr1, hr2⟩ := res_next hres
  have HR1 := Lib.hid (show bindS (.ok (adv ts)) (pExp n) = some res1 from hr1)
  have HR2 := Lib.hid hr2
  have HE := Lib.hid hk
  have HIH := Lib.hid ih
  obtain ⟨g, n', cap, kk, x, c0, c1, c2, hlt, t0, t1, hx, t2, hn⟩ := h.cells
  have hr : r < w.heap.size := lt_of_cell c0
  have hg : g < w.heap.size := lt_of_cell t0
  clear h hx hres hr1 hr2 hk ih
  go_enter Tryd.func51, Tryd.ntmps51
  go_wp2_with fail
  go_region
  clear c0 c1 c2 hlt t0 t1 t2 hg
  have K0 := Lib.hid (show Keeps [] w (w.alloc (.cells #[.string (bs (rstr (headKind ts))), .string (bs x), .int .i64 (headPos ts)] 122)).drew from ((Keeps.refl [] w).alloc _).drew)
  have B0 := Lib.hid (show (w.alloc (.cells #[.string (bs (rstr (headKind ts))), .string (bs x), .int .i64 (headPos ts)] 122)).drew.heap[w.heap.size]? = some (.cells #[.string (bs (rstr (headKind ts))), .string (bs x), .int .i64 (headPos ts)] 122 (0, 0)) from block_alloc w _)
  go_wp2_with fail
  refine (rtake_no (HC.out.keep K0.out) .name _ rfl (by rw [HE.out]; decide)).mono ?_
  rintro e w1 ⟨rfl, hk⟩
  have K1 := Lib.hid (K0.out.trans0 hk)
  have B1 := Lib.hid (hk.some B0.out (by simp))
  clear hk K0 B0
  go_wp2_with fail
  refine (rtake_no (HC.out.keep K1.out) .num _ rfl (by rw [HE.out]; decide)).mono ?_
  rintro e w2 ⟨rfl, hk⟩
  have K2 := Lib.hid (K1.out.trans0 hk)
  have B2 := Lib.hid (hk.some B1.out (by simp))
  clear hk K1 B1
  go_wp2_with fail
  refine (rneed_st (s := .ok ts) (HC.out.keep K2.out) .lpar _ rfl (by decide) (by decide)).mono ?_
  rintro e w3 ⟨y1, rfl, hst, hk, _⟩
  rw [show wantS .lpar (.ok ts) = .ok (adv ts) by simp [wantS, HE.out]] at hst
  have S3 := Lib.hid hst
  have K3 := Lib.hid (show Keeps [r] w w3 from (K2.out.mono (by simp)).trans hk (fun m hm => Or.inl hm))
  have B3 := Lib.hid (hk.some B2.out (by simp; omega))
  clear hk hst K2 B2
  go_wp2_with fail
  refine (rexp_st HIH.out S3.out HR1.out).mono ?_
  rintro e w4 hpost
  obtain ⟨b, rfl, hk, hst, hv⟩ := hpost.parts
  have S4 := Lib.hid hst
  have K4 := Lib.hid (K3.out.trans hk (fun m hm => Or.inl hm))
  have B4 := Lib.hid (hk.some B3.out (by simp; omega))
  have V4 := Lib.hid (fun ts' e => RExpAt.widen K3.out.size (Nat.le_refl _) _ _ _ _ (hv ts' e))
  clear hk hst hv hpost K3 S3 B3
  go_wp2_with fail
  by_cases hc : ∃ ts', stOf res1 = .ok ts' ∧ headKind ts' = .comma
  · obtain ⟨ts', ho, hka⟩ := hc
    have hR := HR2.out
    rw [ho] at hR
    simp only [bindS, hka, if_true] at hR
    obtain ⟨res2, hr1, hr2⟩ := res_next hR
    rw [bindS_want] at hr2
    have HS1 := Lib.hid (show bindS (.ok (adv ts')) (pExp n) = some res2 from hr1)
    have HS2 := Lib.hid hr2
    have HO := Lib.hid ho
    have HKA := Lib.hid hka
    have S4' := Lib.hid (show RC r ts' (-1) w4 from by have := S4.out; rw [ho] at this; exact this)
    clear hr1 hr2 hR hka ho
    refine (rtake_yes S4'.out .comma _ rfl HKA.out).mono ?_
    rintro e w5 ⟨rfl, hrc, hk, hc2⟩
    have S5 := Lib.hid (show RSt r (.ok (adv ts')) w5 from hrc (by decide) (by decide))
    have K5 := Lib.hid (K4.out.trans hk (fun m hm => Or.inl hm))
    have B5 := Lib.hid (hk.some B4.out (by simp; omega))
    have V5 := Lib.hid (RExpAt.keep (fun b1 h1 h2 => hk.block b1 h2 (by simp; omega)) _ _ _ _ (V4.out ts' HO.out))
    have z5 := hk.size
    have S5d := Lib.hid (S5.out.keep (Keeps.refl [] w5).drew)
    clear hrc hk hc2 K4 B4 V4 S4 S4'
    have q5 : w5.drew.cell? ⟨w.heap.size, 2, none⟩ = some (.int .i64 (headPos ts)) := cell_of_block B5.out 2
    have hlt5 : w.heap.size < w5.heap.size := lt_of_some B5.out
    go_wp2_with fail
    go_region_held3 (fun W => W.cell? ⟨w.heap.size, 2, none⟩ = some (.int .i64 (headPos ts)))
      (first | exact q5 | exact q9 | exact ((Keeps.refl [] w9).alloc _).cellSome q9 (by simp) | exact (((Keeps.refl [] w9).alloc _).alloc _).cellSome q9 (by simp))
      (first | (go_at_call 25; refine (rexp_st HIH.out S5d.out HS1.out).mono ?_; rintro e w9 hpost
                obtain ⟨b9, rfl, hk, hst, hv⟩ := hpost.parts
                have q9 : w9.cell? ⟨w.heap.size, 2, none⟩ = some (.int .i64 (headPos ts)) := hk.cellSome q5 (by simp; omega)
                have K9 := Lib.hid hk
                have S9 := Lib.hid hst
                have V9 := Lib.hid hv
                clear hk hst hv hpost))
    all_goals
      clear q5 q9
      go_wp2_with fail
      have hk4 := ((Keeps.refl [] w9).alloc (.cells #[.pointer (some ⟨b, 0, none⟩), .pointer (some ⟨b9, 0, none⟩)] 31)).alloc (.cells #[.string (bs oPair), .slice none 0 0, .slice (some ⟨w9.heap.size, 0, none⟩) 2 2, .int .i64 (headPos ts)] 77)
      have hb := block_alloc (w9.alloc (.cells #[.pointer (some ⟨b, 0, none⟩), .pointer (some ⟨b9, 0, none⟩)] 31)) (.cells #[.string (bs oPair), .slice none 0 0, .slice (some ⟨w9.heap.size, 0, none⟩) 2 2, .int .i64 (headPos ts)] 77)
      have hs1 : (w9.alloc (.cells #[.pointer (some ⟨b, 0, none⟩), .pointer (some ⟨b9, 0, none⟩)] 31)).heap.size = w9.heap.size + 1 := by simp
      have hb0 := block_alloc_old (o' := .cells #[.string (bs oPair), .slice none 0 0, .slice (some ⟨w9.heap.size, 0, none⟩) 2 2, .int .i64 (headPos ts)] 77) (block_alloc w9 (.cells #[.pointer (some ⟨b, 0, none⟩), .pointer (some ⟨b9, 0, none⟩)] 31))
      rw [hs1] at hb
      have z9 := K9.out.size
      have z6 : w5.drew.heap.size = w5.heap.size := rfl
      have zk := K5.out.size
      have KA := Lib.hid ((K5.out.drew.trans K9.out (fun m hm => Or.inl hm)).trans0 hk4)
      have SA := Lib.hid (S9.out.keep hk4)
      have VA := Lib.hid (show ∀ ts3, stOf res2 = .ok ts3 → RExpAt ((w9.alloc (.cells #[.pointer (some ⟨b, 0, none⟩), .pointer (some ⟨b9, 0, none⟩)] 31)).alloc (.cells #[.string (bs oPair), .slice none 0 0, .slice (some ⟨w9.heap.size, 0, none⟩) 2 2, .int .i64 (headPos ts)] 77)) w.heap.size (w9.heap.size + 2) (.pair (headPos ts) (expOf res1) (expOf res2)) [] [] (.pointer (some ⟨w9.heap.size + 1, 0, none⟩)) from by
        intro ts3 e
        refine ⟨rfl, rfl, .pointer (some ⟨b, 0, none⟩), .pointer (some ⟨b9, 0, none⟩), ⟨w9.heap.size + 1, _, _, by omega, by omega, rfl, hb, .inl ⟨rfl, rfl⟩, .inr ⟨w9.heap.size, 2, _, rfl, by omega, by omega, hb0, by simp, by decide, rfl, rfl⟩⟩, ?_, ?_⟩
        · refine RExpAt.widen (Nat.le_refl _) (by omega) _ _ _ _ (RExpAt.keep (fun b1 h1 h2 => ?_) _ _ _ _ V5.out)
          exact (K9.out.trans0 hk4).block b1 (by omega) (by simp; omega)
        · exact RExpAt.widen (by omega) (by omega) _ _ _ _ (RExpAt.keep (fun b1 h1 h2 => hk4.block b1 h2 (by simp)) _ _ _ _ (V9.out ts3 e)))
      have hsz2 : ((w9.alloc (.cells #[.pointer (some ⟨b, 0, none⟩), .pointer (some ⟨b9, 0, none⟩)] 31)).alloc (.cells #[.string (bs oPair), .slice none 0 0, .slice (some ⟨w9.heap.size, 0, none⟩) 2 2, .int .i64 (headPos ts)] 77)).heap.size = w9.heap.size + 2 := by simp
      have HZ := Lib.hid hsz2
      clear hk4 hb hs1 hb0 K9 S9 V9 K5 S5 S5d V5 B5 hsz2
      refine (rneed_st SA.out .rpar _ rfl (by decide) (by decide)).mono ?_
      rintro e w6 ⟨y2, rfl, hst, hk, _⟩
      have K6 := Lib.hid (KA.out.trans hk (fun m hm => Or.inl hm))
      have S6 := Lib.hid hst
      have z8 := hk.size
      rw [HZ.out] at z8
      have V6 := Lib.hid (fun ts' e => RExpAt.widen (Nat.le_refl _) z8 _ _ _ _ (RExpAt.keep (fun b1 h1 h2 => hk.block b1 (by rw [HZ.out]; exact h2) (by simp; omega)) _ _ _ _ (VA.out ts' e)))
      clear hk hst KA SA VA HZ
      go_wp2
      have hR := HS2.out
      have hS := S6.out
      have hV := V6.out
      refine bodyPost_ret (v := .pointer (some ⟨w9.heap.size + 1, 0, none⟩)) (by simp [results, Tryd.results51, go_sem]) rfl ⟨K6.out, _, rfl, ?_⟩
      cases hw : wantS .rpar (stOf res2) with
      | error p =>
        rw [hw] at hR hS
        obtain rfl : res = .error p := by simpa [bindS] using hR.symm
        exact hS
      | ok ts3 =>
        rw [hw] at hR hS
        obtain rfl : res = .ok (.pair (headPos ts) (expOf res1) (expOf res2), ts3) := by simpa [bindS] using hR.symm
        obtain ⟨ts4, h4⟩ := wantS_ok ts3 hw
        exact ⟨hV ts4 h4, hS⟩
  · have hno : ∀ ts', stOf res1 = .ok ts' → headKind ts' ≠ .comma := fun ts' h h' => hc ⟨ts', h, h'⟩
    have hR := HR2.out
    have hR2 : bindS (stOf res1) (fun ts' => (want .rpar ts').bind fun _ ts' => some (.ok (expOf res1, ts'))) = some res := by
      rw [← hR]
      cases hs : stOf res1 with
      | error p => rfl
      | ok ts' => simp only [bindS, hno ts' hs, if_false]
    rw [bindS_want] at hR2
    have HS := Lib.hid hR2
    have HNO := Lib.hid hno
    clear hR hR2 hc hno
    refine (rtake_st S4.out .comma _ rfl HNO.out).mono ?_
    rintro e w5 ⟨rfl, hk⟩
    have S5 := Lib.hid (S4.out.keep hk)
    have K5 := Lib.hid (K4.out.trans0 hk)
    have V5 := Lib.hid (fun ts' e => RExpAt.widen (Nat.le_refl _) hk.size _ _ _ _ (RExpAt.keep (fun b1 h1 h2 => hk.block b1 h2 (by simp)) _ _ _ _ (V4.out ts' e)))
    clear hk S4 K4 V4
    go_wp2_with fail
    refine (rneed_st S5.out .rpar _ rfl (by decide) (by decide)).mono ?_
    rintro e w6 ⟨y2, rfl, hst, hk, _⟩
    have K6 := Lib.hid (K5.out.trans hk (fun m hm => Or.inl hm))
    have S6 := Lib.hid hst
    have V6 := Lib.hid (fun ts' e => RExpAt.widen (Nat.le_refl _) hk.size _ _ _ _ (RExpAt.keep (fun b1 h1 h2 => hk.block b1 h2 (by simp; omega)) _ _ _ _ (V5.out ts' e)))
    clear hk hst S5 K5 V5
    go_wp2
    have hR := HS.out
    have hS := S6.out
    have hV := V6.out
    refine bodyPost_ret (v := .pointer (some ⟨b, 0, none⟩)) (by simp [results, Tryd.results51, go_sem]) rfl ⟨K6.out, b, rfl, ?_⟩
    cases hw : wantS .rpar (stOf res1) with
    | error p =>
      rw [hw] at hR hS
      obtain rfl : res = .error p := by simpa [bindS] using hR.symm
      exact hS
    | ok ts3 =>
      rw [hw] at hR hS
      obtain rfl : res = .ok (expOf res1, ts3) := by simpa [bindS] using hR.symm
      obtain ⟨ts4, h4⟩ := wantS_ok ts3 hw
      exact ⟨hV ts4 h4, hS⟩

/-- The document's parser, whole. -/
theorem rparse_all (r : Nat) : ∀ n, n ≤ 60000 → RExpIH r n ∧ RAtomIH r n := by
  intro n
  induction n using Nat.strongRecOn with
  | _ n ih =>
    intro hn
    cases n with
    | zero => exact ⟨fun ts w res _ h => by simp [pExp] at h, fun ts w res _ h => by simp [pAtom] at h⟩
    | succ n =>
      have ihE : ∀ m, m ≤ n → RExpIH r m := fun m hm => (ih m (by omega) (by omega)).1
      have ihA : ∀ m, m ≤ n → RAtomIH r m := fun m hm => (ih m (by omega) (by omega)).2
      refine ⟨fun ts w res h hres => ?_, fun ts w res h hres => ?_⟩
      · by_cases h1 : headKind ts = .kFun
        · exact rexp_lam (ihE n (Nat.le_refl _)) h h1 res hres
        by_cases h2 : headKind ts = .kIf
        · exact rexp_cond (ihE n (Nat.le_refl _)) h h2 res hres
        by_cases h3 : headKind ts = .kLet
        · by_cases h4 : headKind (adv ts) = .kRec
          · exact rexp_rec (by omega) ihE h h3 h4 res hres
          · exact rexp_let (ihE n (Nat.le_refl _)) h h3 h4 res hres
        exact rexp_app ihA h h1 h2 h3 res hres
      · by_cases h1 : headKind ts = .name
        · exact ratom_name h h1 res hres
        by_cases h2 : headKind ts = .num
        · exact ratom_num h h2 res hres
        by_cases h3 : headKind ts = .lpar
        · exact ratom_par (ihE n (Nat.le_refl _)) h h3 res hres
        exact ratom_no h h1 h2 h3 res hres
end Go.Proofs.YtpbplpnifjbkoaaDoor
