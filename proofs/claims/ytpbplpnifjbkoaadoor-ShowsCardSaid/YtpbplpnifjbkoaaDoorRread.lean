/-
  The document's Read, by contract.
-/
import Derived.Test.YtpbplpnifjbkoaaDoorRtok
import Derived.Test.YtpbplpnifjbkoaaDoorRpar
import Derived.Test.YtpbplpnifjbkoaaDoorRdeep
import Derived.Test.YtpbplpnifjbkoaaDoorPlainShow
namespace Go.Proofs.YtpbplpnifjbkoaaDoor
open Go.RowKit

theorem kwordsList : KwList kwExp kwords := by
  refine ⟨fun x k h => ?_, fun x h => ?_, by decide⟩
  · unfold kwExp at h
    repeat (split at h; · rename_i e; cases h; subst e; decide)
    cases h
  · intro hm
    simp only [kwords, List.mem_cons, List.not_mem_nil, or_false] at hm
    rcases hm with rfl | rfl | rfl | rfl | rfl | rfl | rfl | rfl <;> simp [kwExp] at h

theorem hv_ok {w : World} {lo hi : Nat} {x : Exp} {ts : List Tok} {v : Value} (h : ∀ ts', stOf (.ok (x, ts)) = .ok ts' → RExpAt w lo hi (expOf (.ok (x, ts))) [] [] v) : RExpAt w lo hi x [] [] v := h ts rfl
def RReadPost (w : World) (r : Except (Nat × Nat) Exp) (e : Ending) (w' : World) : Prop :=
  Keeps [] w w' ∧ match r with
  | .ok x => ∃ b : Nat, e = .returned (.tuple #[.pointer (some ⟨b, 0, none⟩), faultV 0 0 ⟨#[]⟩ 0 0]) ∧ RExpAt w' w.heap.size w'.heap.size x [] [] (.pointer (some ⟨b, 0, none⟩)) ∧ wfE false x = true ∧ esz x ≤ 1000 ∧ (textE x).length ≤ 200000
  | .error f => e = .returned (.tuple #[.pointer none, faultV f.1 (placeOf f) ⟨#[]⟩ 0 0])

set_option maxRecDepth 100000 in
set_option maxHeartbeats 4000000 in
theorem rread_any (w : World) (s : ByteArray) : Calls Tryd.prog 9 #[.string s] w (RReadPost w (readExp s.data.toList)) := by
  by_cases hlen : 300 < s.size
  · have hr : readExp s.data.toList = .error (1, 0) := by
      unfold readExp
      rw [if_pos (by simpa using hlen)]
    rw [hr]
    have hd : decide ((s.size : Int) > 300) = true := by simp; omega
    go_enter Tryd.func9, Tryd.ntmps9
    go_wp2_with fail
    exact bodyPost_ret (v := .tuple #[.pointer none, faultV 1 0 ⟨#[]⟩ 0 0]) (by simp [results, Tryd.results9, go_sem]) rfl ⟨(Keeps.refl [] w).alloc _, rfl⟩
  · have hd : decide ((s.size : Int) > 300) = false := by simp; omega
    obtain ⟨res, hres, hP⟩ := readExp_spec s.data.toList (by simpa using hlen)
    have HP := Lib.hid hP
    have hre := readExp_eq (by simpa using hlen) hres
    have HRE := Lib.hid hre
    have HF := Lib.hid hres
    clear hP hre hres
    go_enter Tryd.func9, Tryd.ntmps9
    go_wp2_with fail
    have K0 := Lib.hid (show Keeps [] w (w.alloc (.cells #[.int .i64 0, .int .i64 0, .string ⟨#[]⟩, .int .i64 0, .int .i64 0] 32)) from (Keeps.refl [] w).alloc _)
    have B0 := Lib.hid (block_alloc w (.cells #[.int .i64 0, .int .i64 0, .string ⟨#[]⟩, .int .i64 0, .int .i64 0] 32))
    refine (words_any _).mono ?_
    rintro e w1 ⟨gk, ck, rfl, hgk, hk, hkb⟩
    have K1 := Lib.hid (K0.out.trans0 hk)
    have B1 := Lib.hid (hk.some B0.out (by simp))
    have HKB := Lib.hid hkb
    clear hk hkb K0 B0
    go_wp2_with fail
    refine (rtokens_any kwExp kwords s (by omega) gk ck _ HKB.out (by decide) kwordsList).mono ?_
    rintro e w2 ⟨g, n, cap, rfl, hn, htk, hg1, hg2, hk⟩
    have K2 := Lib.hid (K1.out.trans0 hk)
    have B2 := Lib.hid (hk.some B1.out (by simp))
    have HT := Lib.hid htk
    have HNN := Lib.hid hn
    have hwf : wfT (tokens kwExp s.data.toList) := (toks_TL kwExp kwExp_last s.data.toList _ 0 (Nat.zero_le _) (by omega)).wf
    have hfew := (toks_few kwExp s.data.toList (s.data.toList.length + 1) 0).1
    have HWF := Lib.hid hwf
    have hsz : s.data.toList.length = s.size := by simp
    have hn2 : n ≤ 65536 := by rw [hn]; unfold tokens; omega
    have hn0 : 0 < n := by rw [hn]; exact hwf.pos
    clear hk htk hn K1 B1 HKB hwf hfew
    go_wp2_with fail
    have hk3 : Keeps [] w2 (w2.alloc (.cells #[.slice (some ⟨g, 0, none⟩) n cap, .int .i64 0, .int .i64 (-1)] 71)) := (Keeps.refl [] w2).alloc _
    have hrc : RC w2.heap.size (tokens kwExp s.data.toList) (-1) (w2.alloc (.cells #[.slice (some ⟨g, 0, none⟩) n cap, .int .i64 0, .int .i64 (-1)] 71)) := by
      refine ⟨⟨g, n, cap, 0, tokens kwExp s.data.toList, block_alloc _ _, HNN.out, rfl, hn0, ⟨HT.out.1.imp fun c hc => hc.imp fun z hz => hk3.some hz (by simp), fun j t ht => ?_⟩, by omega, by simp; omega, hn2⟩, HWF.out⟩
      obtain ⟨e1, ⟨x, e2, e3⟩, e4⟩ := HT.out.2 j t ht
      exact ⟨hk3.cellSome e1 (by simp), ⟨x, e2, hk3.cellSome e3 (by simp)⟩, hk3.cellSome e4 (by simp)⟩
    have hrpc := (rparse_all w2.heap.size (4 * s.data.toList.length + 8) (by omega)).1 _ _ res hrc HF.out
    have HRPC := Lib.hid hrpc
    have K3 := Lib.hid (K2.out.trans0 hk3)
    have B3 := Lib.hid (hk3.some B2.out (by simp))
    have hww : w.heap.size < w2.heap.size := lt_of_some B2.out
    have hz3 : (w2.alloc (.cells #[.slice (some ⟨g, 0, none⟩) n cap, .int .i64 0, .int .i64 (-1)] 71)).heap.size = w2.heap.size + 1 := by simp
    have HZ3 := Lib.hid hz3
    clear hk3 hrc hrpc hz3 hn0 hn2 hg1 hg2 hgk K2 B2
    refine HRPC.out.mono ?_
    rintro e w4 hpost
    obtain ⟨b, rfl, hk, hst, hv⟩ := hpost.parts
    have K4 := Lib.hid (show Keeps [] w w4 from K3.out.trans hk (fun m hm => Or.inr (by simp at hm; omega)))
    have B4 := Lib.hid (hk.some B3.out (by simp; omega))
    have hz4 := hk.size
    have HST := Lib.hid hst
    have HV := Lib.hid hv
    clear hk hst hv hpost K3 B3
    go_wp2_with fail
    by_cases hgood : ∃ x ts, res = .ok (x, ts) ∧ headKind ts = .eof
    · obtain ⟨x, ts, rfl, heof⟩ := hgood
      obtain ⟨_, hwe, hes, htx⟩ := HP.out x ts rfl
      have HEO := Lib.hid heof
      have HX := Lib.hid (hv_ok HV.out)
      clear heof
      refine (rneed_yes HST.out .eof _ rfl HEO.out (by decide)).mono ?_
      rintro e w5 ⟨rfl, _, hk, hc2⟩
      have K5 := Lib.hid (show Keeps [] w w5 from K4.out.trans hk (fun m hm => Or.inr (by simp at hm; omega)))
      have B5 := Lib.hid (hk.some B4.out (by simp; omega))
      have V5 := Lib.hid (RExpAt.keep (fun b1 h1 h2 => hk.block b1 h2 (by have := HZ3.out; simp; omega)) _ _ _ _ HX.out)
      have hz5 := hk.size
      clear hk HST HV HX K4 B4
      go_wp2_with fail
      refine (rdeep_any 65536 x (by omega) (Nat.le_refl _) hwe w5 _ _ _ V5.out w5 (Keeps.refl _ _)).mono ?_
      rintro e w6 ⟨rfl, hk⟩
      have K6 := Lib.hid (K5.out.trans0 hk)
      have B6 := Lib.hid (hk.some B5.out (by simp))
      have V6 := Lib.hid (RExpAt.keep (fun b1 h1 h2 => hk.block b1 (by omega) (by simp)) _ _ _ _ V5.out)
      have hz6 := hk.size
      clear hk hc2 K5 B5 V5
      have z0 : w6.cell? ⟨w.heap.size, 0, none⟩ = some (.int .i64 0) := cell_of_block B6.out 0
      have z1 : w6.cell? ⟨w.heap.size, 1, none⟩ = some (.int .i64 0) := cell_of_block B6.out 1
      have z2 : w6.cell? ⟨w.heap.size, 2, none⟩ = some (.string ⟨#[]⟩) := cell_of_block B6.out 2
      have z3 : w6.cell? ⟨w.heap.size, 3, none⟩ = some (.int .i64 0) := cell_of_block B6.out 3
      have z4 : w6.cell? ⟨w.heap.size, 4, none⟩ = some (.int .i64 0) := cell_of_block B6.out 4
      have y0 : w6.frozen? ⟨w.heap.size, 0, none⟩ = false := free_of_block B6.out 0
      have y1 : w6.frozen? ⟨w.heap.size, 1, none⟩ = false := free_of_block B6.out 1
      have y2 : w6.frozen? ⟨w.heap.size, 2, none⟩ = false := free_of_block B6.out 2
      have y3 : w6.frozen? ⟨w.heap.size, 3, none⟩ = false := free_of_block B6.out 3
      have y4 : w6.frozen? ⟨w.heap.size, 4, none⟩ = false := free_of_block B6.out 4
      have hbz : w.heap.size < w6.heap.size := lt_of_some B6.out
      by_cases hdp : 40 < depth x
      · have hd2 : decide ((depth x : Int) > 40) = true := by simp; omega
        go_wp2_with fail
        refine bodyPost_ret (v := .tuple #[.pointer none, faultV 3 0 ⟨#[]⟩ 0 0]) (by simp [results, Tryd.results9, go_sem, z0, z1, z2, z3, z4]) rfl ⟨by repeat (first | exact K6.out | refine Keeps.setCell ?_ (Or.inr (Nat.le_refl _)) _), ?_⟩
        rw [HRE.out, finE, if_pos HEO.out, if_pos hdp]
        rfl
      · have hd2 : decide ((depth x : Int) > 40) = false := by simp; omega
        go_wp2_with fail
        refine bodyPost_ret (v := .tuple #[.pointer (some ⟨b, 0, none⟩), faultV 0 0 ⟨#[]⟩ 0 0]) (by simp [results, Tryd.results9, go_sem, z0, z1, z2, z3, z4]) rfl ⟨by repeat (first | exact K6.out | refine Keeps.setCell ?_ (Or.inr (Nat.le_refl _)) _), ?_⟩
        rw [HRE.out, finE, if_pos HEO.out, if_neg hdp]
        refine ⟨b, rfl, ?_, hwe, hes, htx⟩
        refine RExpAt.widen (by have := HZ3.out; omega) (by simp [World.setCell]; omega) _ _ _ _ (RExpAt.keep (fun b1 h1 h2 => ?_) _ _ _ _ V6.out)
        have hb1 : b1 ≠ w.heap.size := by have := HZ3.out; omega
        repeat (first | rfl | rw [Below.heap_setCell _ _ _ _ hb1])
    · have hneed : Calls Tryd.prog 26 #[.pointer (some ⟨w2.heap.size, 0, none⟩), .string (bs (rstr .eof))] w4 fun e w' => (∃ x, e = .returned (.string (bs x))) ∧ ∃ (q : Nat) (ts' : List Tok), RC w2.heap.size ts' q w' ∧ Keeps [w2.heap.size] w4 w' ∧ finE res = .error (2, q) := by
        cases res with
        | error p =>
          obtain ⟨ts', h'⟩ := HST.out
          refine (rneed_bad h' _).mono ?_
          rintro e w' ⟨h1, hk⟩
          exact ⟨h1, p, ts', h'.keep hk, hk.mono (by simp), rfl⟩
        | ok qq =>
          obtain ⟨x, ts⟩ := qq
          have hne : headKind ts ≠ .eof := fun e => hgood ⟨x, ts, rfl, e⟩
          refine (rneed_no (show RC w2.heap.size ts (-1) w4 from HST.out) .eof _ rfl hne).mono ?_
          rintro e w' ⟨h1, h2, hk⟩
          exact ⟨h1, headPos ts, ts, h2, hk, by rw [finE, if_neg hne]⟩
      have HND := Lib.hid hneed
      clear hneed hgood HST HV
      refine HND.out.mono ?_
      rintro e w5 ⟨⟨y, rfl⟩, pq, ts', hrc, hk, hfin⟩
      have K5 := Lib.hid (show Keeps [] w w5 from K4.out.trans hk (fun m hm => Or.inr (by simp at hm; omega)))
      have B5 := Lib.hid (hk.some B4.out (by simp; omega))
      have HFN := Lib.hid hfin
      obtain ⟨_, _, _, _, _, _, _, c2, _⟩ := hrc.cells
      have hdq : decide ((pq : Int) ≥ 0) = true := by simp
      have z0 : w5.cell? ⟨w.heap.size, 0, none⟩ = some (.int .i64 0) := cell_of_block B5.out 0
      have z1 : w5.cell? ⟨w.heap.size, 1, none⟩ = some (.int .i64 0) := cell_of_block B5.out 1
      have z2 : w5.cell? ⟨w.heap.size, 2, none⟩ = some (.string ⟨#[]⟩) := cell_of_block B5.out 2
      have z3 : w5.cell? ⟨w.heap.size, 3, none⟩ = some (.int .i64 0) := cell_of_block B5.out 3
      have z4 : w5.cell? ⟨w.heap.size, 4, none⟩ = some (.int .i64 0) := cell_of_block B5.out 4
      have y0 : w5.frozen? ⟨w.heap.size, 0, none⟩ = false := free_of_block B5.out 0
      have y1 : w5.frozen? ⟨w.heap.size, 1, none⟩ = false := free_of_block B5.out 1
      have y2 : w5.frozen? ⟨w.heap.size, 2, none⟩ = false := free_of_block B5.out 2
      have y3 : w5.frozen? ⟨w.heap.size, 3, none⟩ = false := free_of_block B5.out 3
      have y4 : w5.frozen? ⟨w.heap.size, 4, none⟩ = false := free_of_block B5.out 4
      have hbz : w.heap.size < w5.heap.size := lt_of_some B5.out
      clear hk hrc hfin K4 B4
      go_wp2_with fail
      go_region
      all_goals
        go_wp2
        refine bodyPost_ret (v := .tuple #[.pointer none, faultV 2 pq ⟨#[]⟩ 0 0]) (by simp [results, Tryd.results9, go_sem, z0, z1, z2, z3, z4]) rfl ⟨by repeat (first | exact K5.out | refine Keeps.setCell ?_ (Or.inr (Nat.le_refl _)) _ | refine Keeps.drew ?_), ?_⟩
        rw [HRE.out, HFN.out]
        rfl
end Go.Proofs.YtpbplpnifjbkoaaDoor
