/-
  The document's parser: applications.
-/
import Derived.Test.YtpbplpnifjbkoaaDoorRrec
import Derived.Deep.RegionLaw
import Derived.Deep.RegionHeld3
import Derived.Deep.LoopGhost
namespace Go.Proofs.YtpbplpnifjbkoaaDoor
open Go.RowKit

/-- A node's root. -/
theorem RExpAt.root {w : World} {lo hi : Nat} {x : Exp} {b : Nat} (h : RExpAt w lo hi x [] [] (.pointer (some ⟨b, 0, none⟩))) : ∃ op ns vs q, Node w lo hi op ns vs q (.pointer (some ⟨b, 0, none⟩)) := by
  induction x with
  | name p s => exact ⟨_, _, _, _, h.2.2⟩
  | num p s => exact ⟨_, _, _, _, h.2.2⟩
  | lam p x e ih => obtain ⟨_, _, _, h, _⟩ := h; exact ⟨_, _, _, _, h⟩
  | app p f a => obtain ⟨_, _, _, _, _, h, _⟩ := h; exact ⟨_, _, _, _, h⟩
  | pair p f a => obtain ⟨_, _, _, _, h, _⟩ := h; exact ⟨_, _, _, _, h⟩
  | letin p x f a => obtain ⟨_, _, _, _, h, _⟩ := h; exact ⟨_, _, _, _, h⟩
  | cond p c f a => obtain ⟨_, _, _, _, _, h, _⟩ := h; exact ⟨_, _, _, _, h⟩
  | recr p g => obtain ⟨_, _, _, _, _, h, _⟩ := h; exact ⟨_, _, _, _, h⟩
  | bnd x a g => obtain ⟨_, _, _, h, _⟩ := h; cases h
  | fin e ih => exact ih h.2.2
def isS (s : Except Nat (List Tok)) (k : Kind) : Bool := match s with | .ok ts => decide (headKind ts = k) | .error _ => false
theorem is_st {r : Nat} {s : Except Nat (List Tok)} {w : World} (h : RSt r s w) (k : Kind) (kb : ByteArray) (hkb : kb = bs (rstr k)) (v : Bool) (hv : v = isS s k) :
    Calls Tryd.prog 52 #[.pointer (some ⟨r, 0, none⟩), .string kb] w fun e w' => e = .returned (.bool v) ∧ Keeps [] w w' := by
  subst hv
  cases s with
  | ok ts => exact is_ok h k kb hkb
  | error p => obtain ⟨ts, h⟩ := h; exact is_bad h kb

set_option maxRecDepth 100000 in
set_option maxHeartbeats 4000000 in
theorem rexp_app {r n : Nat} {ts : List Tok} {w : World} (iha : ∀ m, m ≤ n → RAtomIH r m) (h : RC r ts (-1) w) (h1 : headKind ts ≠ .kFun) (h2 : headKind ts ≠ .kIf) (h3 : headKind ts ≠ .kLet) (res : Except Nat (Exp × List Tok)) (hres : pExp (n + 1) ts = some res) :
    Calls Tryd.prog 25 #[.pointer (some ⟨r, 0, none⟩)] w (RPost r w id res) := by
  have HC := Lib.hid h
  unfold pExp at hres
  simp only [h1, h2, h3, if_false] at hres
  obtain ⟨resA, hr1, hr2⟩ := res_next hres
  have HR1 := Lib.hid hr1
  have HR2 := Lib.hid hr2
  have H1 := Lib.hid h1
  have H2 := Lib.hid h2
  have H3 := Lib.hid h3
  obtain ⟨g, n', cap, kk, x, c0, c1, c2, hlt, t0, t1, hx, t2, hn⟩ := h.cells
  have hr : r < w.heap.size := lt_of_cell c0
  have hg : g < w.heap.size := lt_of_cell t0
  have HIH := Lib.hid iha
  clear h hx hres iha hr1 hr2 h1 h2 h3
  go_enter Tryd.func25, Tryd.ntmps25
  go_wp2_with fail
  go_region
  clear c0 c1 hlt t0 t1 t2 hg
  have K0 := Lib.hid (show Keeps [] w (w.alloc (.cells #[.string ⟨#[]⟩, .slice none 0 0, .slice none 0 0, .int .i64 (headPos ts)] 77)).drew from ((Keeps.refl [] w).alloc _).drew)
  go_wp2_with fail
  refine (rtake_no (HC.out.keep K0.out) .kFun _ rfl H1.out).mono ?_
  rintro e w1 ⟨rfl, hk⟩
  have K1 := Lib.hid (K0.out.trans0 hk)
  clear hk K0
  go_wp2_with fail
  refine (rtake_no (HC.out.keep K1.out) .kIf _ rfl H2.out).mono ?_
  rintro e w2 ⟨rfl, hk⟩
  have K2 := Lib.hid (K1.out.trans0 hk)
  clear hk K1
  go_wp2_with fail
  refine (rtake_no (HC.out.keep K2.out) .kLet _ rfl H3.out).mono ?_
  rintro e w3 ⟨rfl, hk⟩
  have K3 := Lib.hid (K2.out.trans0 hk)
  clear hk K2
  go_wp2_with fail
  refine (HIH.out n (Nat.le_refl _) _ _ _ (HC.out.keep K3.out) HR1.out).mono ?_
  rintro e w4 hpost
  obtain ⟨b, rfl, hk, hst, hv⟩ := hpost.parts
  have K4 := Lib.hid ((K3.out.mono (M' := [r]) (by simp)).trans hk (fun m hm => Or.inl hm))
  have HS := Lib.hid hst
  have HV := Lib.hid hv
  clear hk hst hv hpost
  go_wp2_with fail
  go_loopg [3] n (fun gg v3 wx => ∃ ra b, v3 = .pointer (some ⟨b, 0, none⟩) ∧ RSt r (stOf ra) wx ∧ Keeps [r] w wx ∧ (∀ ts, stOf ra = .ok ts → RExpAt wx w.heap.size wx.heap.size (expOf ra) [] [] (.pointer (some ⟨b, 0, none⟩))) ∧ gg ≤ n ∧
      bindS (stOf ra) (pApps gg (headPos ts) (expOf ra)) = some res)
  case atStart => exact ⟨resA, b, rfl, HS.out, K4.out, fun ts e => RExpAt.widen K3.out.size (Nat.le_refl _) _ _ _ _ (HV.out ts e), Nat.le_refl _, HR2.out⟩
  case round =>
    clear HR1 HR2 K3 K4 HS HV
    obtain ⟨ra, b, rfl, hst, hk, hv, hgn, hR⟩ := hrel
    have HS := Lib.hid hst
    have K0 := Lib.hid hk
    have HV := Lib.hid hv
    have HR := Lib.hid hR
    by_cases hs : ∃ ts', stOf ra = .ok ts' ∧ startsAtom (headKind ts') = true
    · obtain ⟨ts', ho, hsa⟩ := hs
      have hR' := hR
      rw [ho] at hR'
      obtain ⟨k, rfl⟩ : ∃ k, gk = k + 1 := by
        cases gk with
        | zero => simp [bindS, pApps] at hR'
        | succ k => exact ⟨k, rfl⟩
      simp only [bindS, pApps, hsa, if_true] at hR'
      obtain ⟨resB, hr1, hr2⟩ := res_next hR'
      have HR1 := Lib.hid hr1
      have HR2 := Lib.hid hr2
      have HO := Lib.hid ho
      obtain ⟨op, nss, vss, q, hnode⟩ := (hv ts' ho).root
      obtain ⟨b', sn, sl, hb1, hb2, hb3, hb4, _, _⟩ := hnode
      cases hb3
      have q3 : wr.cell? ⟨b, 3, none⟩ = some (.int .i64 q) := cell_of_block hb4 3
      have HB := Lib.hid hb4
      rw [ho] at hst
      clear hR hR' hr1 hr2 ho hv hk hb4
      unfold startsAtom at hsa
      rcases (by simpa using hsa : (headKind ts' = .name ∨ headKind ts' = .num) ∨ headKind ts' = .lpar) with (hk | hk) | hk
      have HE := Lib.hid hk
      have HST := Lib.hid hst
      clear hst hsa hk
      go_wp2_with fail
      refine (is_st HST.out .name _ rfl true (by simp [isS, HE.out])).mono ?_
      rintro e wz ⟨rfl, hk⟩
      have KZ := Lib.hid hk
      clear hk HE
      go_wp2_with fail
      rotate_left
      have HE := Lib.hid hk
      have HST := Lib.hid hst
      clear hst hsa hk
      go_wp2_with fail
      refine (is_st HST.out .name _ rfl false (by simp [isS, HE.out])).mono ?_
      rintro e w5 ⟨rfl, hk⟩
      have K1 := Lib.hid hk
      clear hk
      go_wp2_with fail
      refine (is_st (HST.out.keep K1.out) .num _ rfl true (by simp [isS, HE.out])).mono ?_
      rintro e wz ⟨rfl, hk⟩
      have KZ := Lib.hid (K1.out.trans0 hk)
      clear hk HE K1
      go_wp2_with fail
      rotate_left
      have HE := Lib.hid hk
      have HST := Lib.hid hst
      clear hst hsa hk
      go_wp2_with fail
      refine (is_st HST.out .name _ rfl false (by simp [isS, HE.out])).mono ?_
      rintro e w5 ⟨rfl, hk⟩
      have K1 := Lib.hid hk
      clear hk
      go_wp2_with fail
      refine (is_st (HST.out.keep K1.out) .num _ rfl false (by simp [isS, HE.out])).mono ?_
      rintro e w6 ⟨rfl, hk⟩
      have K2 := Lib.hid (K1.out.trans0 hk)
      clear hk
      go_wp2_with fail
      refine (is_st (HST.out.keep K2.out) .lpar _ rfl true (by simp [isS, HE.out])).mono ?_
      rintro e wz ⟨rfl, hk⟩
      have KZ := Lib.hid (K2.out.trans0 hk)
      clear hk HE K1 K2
      go_wp2_with fail
      all_goals
        have q4 : wz.cell? ⟨b, 3, none⟩ = some (.int .i64 q) := KZ.out.cellSome q3 (by simp)
        have hbz : b < wz.heap.size := Nat.lt_of_lt_of_le hb2 KZ.out.size
        clear q3
        have HSD := Lib.hid (show RC r ts' (-1) wz.drew from RC.keep HST.out KZ.out.drew)
        have q5 : wz.drew.cell? ⟨b, 3, none⟩ = some (.int .i64 q) := q4
        go_region_held3 (fun W => W.cell? ⟨b, 3, none⟩ = some (.int .i64 q))
          (first | exact q5 | exact q9 | exact ((Keeps.refl [] w9).alloc _).cellSome q9 (by simp) | exact (((Keeps.refl [] w9).alloc _).alloc _).cellSome q9 (by simp))
          (first | (go_at_call 51; refine (HIH.out k (by omega) _ _ _ HSD.out HR1.out).mono ?_; rintro e w9 hpost
                    obtain ⟨b9, rfl, hk, hst, hv⟩ := hpost.parts
                    have q9 : w9.cell? ⟨b, 3, none⟩ = some (.int .i64 q) := hk.cellSome q4 (by simp; omega)
                    have K9 := Lib.hid hk
                    have S9 := Lib.hid hst
                    have V9 := Lib.hid hv
                    clear hk hst hv hpost))
        all_goals
          clear q4 q5 hbz q9
          go_wp2_with fail
          go_roundg k
          case measure => omega
          case rel =>
            have hk4 := ((Keeps.refl [] w9).alloc (.cells #[.pointer (some ⟨b, 0, none⟩), .pointer (some ⟨b9, 0, none⟩)] 31)).alloc (.cells #[.string (bs oApp), .slice none 0 0, .slice (some ⟨w9.heap.size, 0, none⟩) 2 2, .int .i64 q] 77)
            have hb := block_alloc (w9.alloc (.cells #[.pointer (some ⟨b, 0, none⟩), .pointer (some ⟨b9, 0, none⟩)] 31)) (.cells #[.string (bs oApp), .slice none 0 0, .slice (some ⟨w9.heap.size, 0, none⟩) 2 2, .int .i64 q] 77)
            have hs1 : (w9.alloc (.cells #[.pointer (some ⟨b, 0, none⟩), .pointer (some ⟨b9, 0, none⟩)] 31)).heap.size = w9.heap.size + 1 := by simp
            have hb0 := block_alloc_old (o' := .cells #[.string (bs oApp), .slice none 0 0, .slice (some ⟨w9.heap.size, 0, none⟩) 2 2, .int .i64 q] 77) (block_alloc w9 (.cells #[.pointer (some ⟨b, 0, none⟩), .pointer (some ⟨b9, 0, none⟩)] 31))
            rw [hs1] at hb
            have KA := ((K0.out.trans0 KZ.out).drew.trans K9.out (fun m hm => Or.inl hm)).trans0 hk4
            have hsz := KA.size
            have z1 := K0.out.size
            have z2 := KZ.out.size
            have z3 := K9.out.size
            have z4 : wz.drew.heap.size = wz.heap.size := rfl
            have hs2 : ((w9.alloc (.cells #[.pointer (some ⟨b, 0, none⟩), .pointer (some ⟨b9, 0, none⟩)] 31)).alloc (.cells #[.string (bs oApp), .slice none 0 0, .slice (some ⟨w9.heap.size, 0, none⟩) 2 2, .int .i64 q] 77)).heap.size = w9.heap.size + 2 := by simp
            cases resB with
            | error p => exact ⟨.error p, w9.heap.size + 1, rfl, S9.out.keep hk4, KA, (fun _ e => by cases e), by omega, HR2.out⟩
            | ok qq =>
              obtain ⟨a, ts3⟩ := qq
              refine ⟨.ok (.app (headPos ts) (expOf ra) a, ts3), w9.heap.size + 1, rfl, S9.out.keep hk4, KA, fun _ _ => ?_, by omega, HR2.out⟩
              refine ⟨rfl, rfl, .pointer (some ⟨b, 0, none⟩), .pointer (some ⟨b9, 0, none⟩), q, ⟨w9.heap.size + 1, _, _, by omega, ?_, rfl, hb, .inl ⟨rfl, rfl⟩, .inr ⟨w9.heap.size, 2, _, rfl, by omega, ?_, hb0, by simp, by decide, rfl, rfl⟩⟩, ?_, ?_⟩
              · simp
              · simp; omega
              · have hf := HV.out ts' HO.out
                refine RExpAt.widen (Nat.le_refl _) (by simp; omega) _ _ _ _ (RExpAt.keep (fun b1 h1 h2 => ?_) _ _ _ _ hf)
                exact (((KZ.out.drew.mono (M' := [r]) (by simp)).trans K9.out (fun m hm => Or.inl hm)).trans0 hk4).block b1 h2 (by simp; omega)
              · have ha := V9.out ts3 rfl
                exact RExpAt.widen (by omega) (by simp; omega) _ _ _ _ (RExpAt.keep (fun b1 h1 h2 => hk4.block b1 h2 (by simp)) _ _ _ _ ha)
    · have hn : ∀ k, (k = Kind.name ∨ k = .num ∨ k = .lpar) → false = isS (stOf ra) k := by
        intro k hk
        cases hra : stOf ra with
        | error p => rfl
        | ok ts' =>
          have : startsAtom (headKind ts') ≠ true := fun h => hs ⟨ts', hra, h⟩
          symm
          simp only [isS, decide_eq_false_iff_not]
          intro e
          rw [e] at this
          rcases hk with rfl | rfl | rfl <;> exact this rfl
      have hres : res = ra := by
        cases ra with
        | error p => simpa [bindS, stOf] using hR.symm
        | ok qq =>
          obtain ⟨x, ts'⟩ := qq
          have hst : ¬ startsAtom (headKind ts') = true := fun h => hs ⟨ts', rfl, h⟩
          cases gk with
          | zero => simp [bindS, stOf, pApps] at hR
          | succ k => simpa [bindS, stOf, pApps, hst, expOf] using hR.symm
      have HN := Lib.hid hn
      have HRES := Lib.hid hres
      clear hst hk hv hR hs hn hres
      go_wp2_with fail
      refine (is_st HS.out .name _ rfl false (HN.out _ (.inl rfl))).mono ?_
      rintro e w5 ⟨rfl, hk⟩
      have K1 := Lib.hid hk
      clear hk
      go_wp2_with fail
      refine (is_st (HS.out.keep K1.out) .num _ rfl false (HN.out _ (.inr (.inl rfl)))).mono ?_
      rintro e w6 ⟨rfl, hk⟩
      have K2 := Lib.hid (K1.out.trans0 hk)
      clear hk
      go_wp2_with fail
      refine (is_st (HS.out.keep K2.out) .lpar _ rfl false (HN.out _ (.inr (.inr rfl)))).mono ?_
      rintro e w7 ⟨rfl, hk⟩
      have K3 := Lib.hid (K2.out.trans0 hk)
      clear hk
      go_wp2
      have hS := HS.out.keep K3.out
      have hV := HV.out
      refine bodyPost_ret (v := .pointer (some ⟨b, 0, none⟩)) (by simp [results, Tryd.results25, go_sem]) rfl ⟨K0.out.trans0 K3.out, b, rfl, ?_⟩
      rw [HRES.out]
      cases ra with
      | error p => exact hS
      | ok qq =>
        obtain ⟨x, ts'⟩ := qq
        exact ⟨RExpAt.widen (Nat.le_refl _) K3.out.size _ _ _ _ (RExpAt.keep (fun b1 h1 h2 => K3.out.block b1 h2 (by simp)) _ _ _ _ (hV ts' rfl)), hS⟩
end Go.Proofs.YtpbplpnifjbkoaaDoor
