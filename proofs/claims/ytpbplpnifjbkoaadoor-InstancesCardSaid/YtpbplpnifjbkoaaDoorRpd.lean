/-
  The document's Parsed, by contract.
-/
import Derived.Test.YtpbplpnifjbkoaaDoorRtyp
import Derived.Test.YtpbplpnifjbkoaaDoorRtok
import Derived.Test.YtpbplpnifjbkoaaDoorPlainShow
import Derived.Test.YtpbplpnifjbkoaaDoorTred
namespace Go.Proofs.YtpbplpnifjbkoaaDoor
open Go.RowKit

def kkinds : List Bytes := [[105, 110, 116], [98, 111, 111, 108]]
theorem kinds_any (w : World) : Calls Tryd.prog 29 #[] w fun e w' => ∃ g cap : Nat, e = .returned (.slice (some ⟨g, 0, none⟩) 2 cap) ∧ w.heap.size ≤ g ∧ Keeps [] w w' ∧ w'.heap[g]? = some (.cells (kkinds.map fun b => Value.string (bs b)).toArray 9 (0, 0)) := by
  go_enter Tryd.func29, Tryd.ntmps29
  go_wp2
  go_ret
  exact ⟨w.heap.size, 2, rfl, Nat.le_refl _, (Keeps.refl [] w).alloc _, block_alloc w _⟩
theorem kkindsList : KwList kwTyp kkinds := by
  refine ⟨fun x k h => ?_, fun x h => ?_, by decide⟩
  · unfold kwTyp at h
    repeat (split at h; · rename_i e; cases h; subst e; decide)
    cases h
  · intro hm
    simp only [kkinds, List.mem_cons, List.not_mem_nil, or_false] at hm
    rcases hm with rfl | rfl <;> simp [kwTyp] at h

def RParsedPost (w : World) (r : Except (Nat × Nat) (Ty × List Bytes)) (e : Ending) (w' : World) : Prop :=
  Keeps [] w w' ∧ match r with
  | .ok q => ∃ b sv, e = .returned (.tuple #[pV b, sv, faultV 0 0 ⟨#[]⟩ 0 0]) ∧ RTy w' q.1 (pV b) ∧ w'.ownsRow w.heap.size 9 1 sv q.2.length (q.2.map fun e => .string (bs e))
  | .error f => e = .returned (.tuple #[.pointer none, .slice none 0 0, faultV f.1 (placeOf f) ⟨#[]⟩ 0 0])

set_option maxRecDepth 100000 in
set_option maxHeartbeats 4000000 in
theorem rparsed_any (w : World) (s : ByteArray) : Calls Tryd.prog 13 #[.string s] w (RParsedPost w (readTyp s.data.toList)) := by
  by_cases hlen : 300 < s.size
  · have hr : readTyp s.data.toList = .error (1, 0) := by
      unfold readTyp
      rw [if_pos (by simpa using hlen)]
    rw [hr]
    have hd : decide ((s.size : Int) > 300) = true := by simp; omega
    go_enter Tryd.func13, Tryd.ntmps13
    go_wp2_with fail
    exact bodyPost_ret (v := .tuple #[.pointer none, .slice none 0 0, faultV 1 0 ⟨#[]⟩ 0 0]) (by simp [results, Tryd.results13, go_sem]) rfl ⟨(Keeps.refl [] w).alloc _, rfl⟩
  · have hd : decide ((s.size : Int) > 300) = false := by simp; omega
    obtain ⟨res, hres, hP⟩ := readTyp_spec s.data.toList (by simpa using hlen)
    have HP := Lib.hid hP
    have hre := readTyp_eq (by simpa using hlen) hres
    have HRE := Lib.hid hre
    have HF := Lib.hid hres
    clear hP hre hres
    go_enter Tryd.func13, Tryd.ntmps13
    go_wp2_with fail
    have K0 := Lib.hid (show Keeps [] w (w.alloc (.cells #[.int .i64 0, .int .i64 0, .string ⟨#[]⟩, .int .i64 0, .int .i64 0] 32)) from (Keeps.refl [] w).alloc _)
    have B0 := Lib.hid (block_alloc w (.cells #[.int .i64 0, .int .i64 0, .string ⟨#[]⟩, .int .i64 0, .int .i64 0] 32))
    refine (kinds_any _).mono ?_
    rintro e w1 ⟨gk, ck, rfl, hgk, hk, hkb⟩
    have K1 := Lib.hid (K0.out.trans0 hk)
    have B1 := Lib.hid (hk.some B0.out (by simp))
    have HKB := Lib.hid hkb
    clear hk hkb K0 B0
    go_wp2_with fail
    refine (rtokens_any kwTyp kkinds s (by omega) gk ck _ HKB.out (by decide) kkindsList).mono ?_
    rintro e w2 ⟨g, n, cap, rfl, hn, htk, hg1, hg2, hk⟩
    have K2 := Lib.hid (K1.out.trans0 hk)
    have B2 := Lib.hid (hk.some B1.out (by simp))
    have HT := Lib.hid htk
    have HNN := Lib.hid hn
    have hwf : wfT (tokens kwTyp s.data.toList) := wfT_toks s.data.toList _ _ (Nat.zero_le _) (by omega)
    have hfew := tokens_len kwTyp s.data.toList (s.data.toList.length + 1) 0
    have HWF := Lib.hid hwf
    have hsz : s.data.toList.length = s.size := by simp
    have hn2 : n ≤ 65536 := by rw [hn]; unfold tokens; omega
    have hn0 : 0 < n := by rw [hn]; exact hwf.pos
    have hww : w.heap.size < w2.heap.size := lt_of_some B2.out
    have htl : (tokens kwTyp s.data.toList).length ≤ 301 := by unfold tokens; omega
    clear hk htk hn K1 B1 HKB hwf hfew
    go_wp2_with fail
    have hk3 : Keeps [] w2 ((w2.alloc (.cells #[.slice (some ⟨g, 0, none⟩) n cap, .int .i64 0, .int .i64 (-1)] 71)).alloc (.cells #[.slice none 0 0] 39)) := ((Keeps.refl [] w2).alloc _).alloc _
    have hz3 : (w2.alloc (.cells #[.slice (some ⟨g, 0, none⟩) n cap, .int .i64 0, .int .i64 (-1)] 71)).heap.size = w2.heap.size + 1 := by simp
    have hbn := block_alloc (w2.alloc (.cells #[.slice (some ⟨g, 0, none⟩) n cap, .int .i64 0, .int .i64 (-1)] 71)) (.cells #[.slice none 0 0] 39)
    rw [hz3] at hbn
    have hrc : RC w2.heap.size (tokens kwTyp s.data.toList) (-1) ((w2.alloc (.cells #[.slice (some ⟨g, 0, none⟩) n cap, .int .i64 0, .int .i64 (-1)] 71)).alloc (.cells #[.slice none 0 0] 39)) := by
      refine ⟨⟨g, n, cap, 0, tokens kwTyp s.data.toList, block_alloc_old (block_alloc _ _), HNN.out, rfl, hn0, ⟨HT.out.1.imp fun c hc => hc.imp fun z hz => hk3.some hz (by simp), fun j t ht => ?_⟩, by omega, by simp; omega, hn2⟩, HWF.out⟩
      obtain ⟨e1, ⟨x, e2, e3⟩, e4⟩ := HT.out.2 j t ht
      exact ⟨hk3.cellSome e1 (by simp), ⟨x, e2, hk3.cellSome e3 (by simp)⟩, hk3.cellSome e4 (by simp)⟩
    have hC : RTC w.heap.size w2.heap.size (w2.heap.size + 1) [] (tokens kwTyp s.data.toList) ((w2.alloc (.cells #[.slice (some ⟨g, 0, none⟩) n cap, .int .i64 0, .int .i64 (-1)] 71)).alloc (.cells #[.slice none 0 0] 39)) :=
      ⟨hrc, ⟨_, hbn, World.ownsRow_nil _ _ _ _⟩, by omega, by omega, by simp; omega, by simp only [List.length_nil]; omega, by omega⟩
    have HC := Lib.hid hC
    have K3 := Lib.hid (K2.out.trans0 hk3)
    have B3 := Lib.hid (hk3.some B2.out (by simp))
    clear hk3 hrc hC hz3 hbn hn0 hn2 hg1 hg2 hgk K2 B2 htl
    refine ((rtypes w.heap.size w2.heap.size (w2.heap.size + 1) _).1 _ _ _ res HC.out HF.out).mono ?_
    rintro e w4 ⟨hk, b, rfl, hpost⟩
    have K4 := Lib.hid (show Keeps [] w w4 from ⟨hk.os.trans K3.out.os, hk.tape.trans K3.out.tape, hk.output.trans K3.out.output, Nat.le_trans K3.out.size hk.size, fun k h1 _ => (hk.low k h1 (Nat.lt_of_lt_of_le h1 K3.out.size)).trans (K3.out.block k h1 (by simp))⟩)
    have B4 := Lib.hid (hk.block _ _ B3.out (by omega) (by omega) (by simp))
    clear hk K3 B3
    go_wp2_with fail
    by_cases hgood : ∃ q ts, res = .ok (q, ts) ∧ headKind ts = .eof
    · obtain ⟨q, ts, rfl, heof⟩ := hgood
      obtain ⟨_, hqs, hqn⟩ := HP.out q ts rfl
      have HEO := Lib.hid heof
      obtain ⟨hC4, hv4⟩ := hpost
      have HC4 := Lib.hid hC4
      have HV4 := Lib.hid hv4
      clear heof hC4 hv4
      refine (rneed_yes HC4.out.rc .eof _ rfl HEO.out (by decide)).mono ?_
      rintro e w5 ⟨rfl, _, hk, hc2⟩
      have K5 := Lib.hid (show Keeps [] w w5 from K4.out.trans hk (fun m hm => Or.inr (by simp at hm; omega)))
      have B5 := Lib.hid (hk.some B4.out (by simp; omega))
      obtain ⟨cs, ho⟩ := HC4.out.rc.obj
      have V5 := Lib.hid ((hk.kt (B := w.heap.size) (r := w2.heap.size) (nb := w2.heap.size + 1) (by simp; omega)).kr HC4.out |>.ty HV4.out)
      have hnm := HC4.out.nm.keep hk ho (by simp) (by simp)
      have hz5 := hk.size
      obtain ⟨sv, hbx, hown⟩ := hnm
      have HBX := Lib.hid hbx
      have HOW := Lib.hid hown
      clear hk HC4 HV4 K4 B4 ho hbx hown
      go_wp2_with fail
      refine (rsize_any 1000 (by omega) q.1 (by omega) w5 _ V5.out).mono ?_
      rintro e w6 ⟨rfl, rfl⟩
      have z0 : w5.cell? ⟨w.heap.size, 0, none⟩ = some (.int .i64 0) := cell_of_block B5.out 0
      have y0 : w5.frozen? ⟨w.heap.size, 0, none⟩ = false := free_of_block B5.out 0
      have z1 : w5.cell? ⟨w.heap.size, 1, none⟩ = some (.int .i64 0) := cell_of_block B5.out 1
      have y1 : w5.frozen? ⟨w.heap.size, 1, none⟩ = false := free_of_block B5.out 1
      have z2 : w5.cell? ⟨w.heap.size, 2, none⟩ = some (.string ⟨#[]⟩) := cell_of_block B5.out 2
      have y2 : w5.frozen? ⟨w.heap.size, 2, none⟩ = false := free_of_block B5.out 2
      have z3 : w5.cell? ⟨w.heap.size, 3, none⟩ = some (.int .i64 0) := cell_of_block B5.out 3
      have y3 : w5.frozen? ⟨w.heap.size, 3, none⟩ = false := free_of_block B5.out 3
      have z4 : w5.cell? ⟨w.heap.size, 4, none⟩ = some (.int .i64 0) := cell_of_block B5.out 4
      have y4 : w5.frozen? ⟨w.heap.size, 4, none⟩ = false := free_of_block B5.out 4
      have hbz : w.heap.size < w5.heap.size := lt_of_some B5.out
      obtain ⟨ad, scap, rfl, _⟩ := ownsRow_shape HOW.out
      have cn : w5.cell? ⟨w2.heap.size + 1, 0, none⟩ = some (.slice ad q.2.length scap) := by
        have := cell_of_block HBX.out 0
        simpa using this
      clear hc2
      by_cases hdp : 120 < q.1.size
      · have hd2 : decide ((q.1.size : Int) > 120) = true := by simp; omega
        clear cn
        go_wp2_with fail
        refine bodyPost_ret (v := .tuple #[.pointer none, .slice none 0 0, faultV 8 0 ⟨#[]⟩ 0 0]) (by simp [results, Tryd.results13, go_sem, z0, z1, z2, z3, z4]) rfl ⟨by repeat (first | exact K5.out | refine Keeps.setCell ?_ (Or.inr (Nat.le_refl _)) _), ?_⟩
        rw [HRE.out, finT, if_pos HEO.out, if_pos hdp]
        rfl
      · have hd2 : decide ((q.1.size : Int) > 120) = false := by simp; omega
        go_wp2_with fail
        go_region
        all_goals
          go_wp2
          have hk6 : Keeps [w.heap.size] w5 (((((w5.drew.setCell ⟨w.heap.size, 0, none⟩ (.int .i64 0)).setCell ⟨w.heap.size, 1, none⟩ (.int .i64 0)).setCell ⟨w.heap.size, 2, none⟩ (.string ⟨#[]⟩)).setCell ⟨w.heap.size, 3, none⟩ (.int .i64 0)).setCell ⟨w.heap.size, 4, none⟩ (.int .i64 0)) := by
            repeat (first | exact Keeps.refl _ _ | refine Keeps.setCell ?_ (Or.inl (by simp)) _ | refine Keeps.drew ?_)
          refine bodyPost_ret (v := .tuple #[pV b, .slice ad q.2.length scap, faultV 0 0 ⟨#[]⟩ 0 0]) (by simp [results, Tryd.results13, go_sem, z0, z1, z2, z3, z4]) rfl ⟨by repeat (first | exact K5.out | refine Keeps.setCell ?_ (Or.inr (Nat.le_refl _)) _ | refine Keeps.drew ?_), ?_⟩
          rw [HRE.out, finT, if_pos HEO.out, if_neg hdp]
          refine ⟨b, _, rfl, KR.ty (fun k cs' T z hk hT => hk6.some hk (by
            simp only [List.mem_singleton]
            rintro rfl
            rw [B5.out] at hk
            cases hk
            rcases hT with e | e <;> exact absurd e (by decide))) V5.out, HOW.out.1, HOW.out.2.imp id fun ⟨g', cap', cur, e1, e2, e3, e4⟩ => ⟨g', cap', cur, e1, e2, hk6.some e3 (by
            simp only [List.mem_singleton]
            rintro rfl
            rw [B5.out] at e3
            cases e3), e4⟩⟩
    · have hneed : Calls Tryd.prog 26 #[.pointer (some ⟨w2.heap.size, 0, none⟩), .string (bs (rstr .eof))] w4 fun e w' => (∃ x, e = .returned (.string (bs x))) ∧ ∃ (q : Nat) (ts' : List Tok), RC w2.heap.size ts' q w' ∧ Keeps [w2.heap.size] w4 w' ∧ finT res = .error (2, q) := by
        cases res with
        | error p =>
          obtain ⟨ts', h'⟩ := hpost
          refine (rneed_bad h' _).mono ?_
          rintro e w' ⟨h1, hk⟩
          exact ⟨h1, p, ts', h'.keep hk, hk.mono (by simp), rfl⟩
        | ok qq =>
          obtain ⟨x, ts⟩ := qq
          have hne : headKind ts ≠ .eof := fun e => hgood ⟨x, ts, rfl, e⟩
          refine (rneed_no hpost.1.rc .eof _ rfl hne).mono ?_
          rintro e w' ⟨h1, h2, hk⟩
          exact ⟨h1, headPos ts, ts, h2, hk, by rw [finT, if_neg hne]⟩
      have HND := Lib.hid hneed
      clear hneed hgood hpost
      refine HND.out.mono ?_
      rintro e w5 ⟨⟨y, rfl⟩, pq, ts', hrc, hk, hfin⟩
      have K5 := Lib.hid (show Keeps [] w w5 from K4.out.trans hk (fun m hm => Or.inr (by simp at hm; omega)))
      have B5 := Lib.hid (hk.some B4.out (by simp; omega))
      have HFN := Lib.hid hfin
      obtain ⟨_, _, _, _, _, _, _, c2, _⟩ := hrc.cells
      have hdq : decide ((pq : Int) ≥ 0) = true := by simp
      have z0 : w5.cell? ⟨w.heap.size, 0, none⟩ = some (.int .i64 0) := cell_of_block B5.out 0
      have y0 : w5.frozen? ⟨w.heap.size, 0, none⟩ = false := free_of_block B5.out 0
      have z1 : w5.cell? ⟨w.heap.size, 1, none⟩ = some (.int .i64 0) := cell_of_block B5.out 1
      have y1 : w5.frozen? ⟨w.heap.size, 1, none⟩ = false := free_of_block B5.out 1
      have z2 : w5.cell? ⟨w.heap.size, 2, none⟩ = some (.string ⟨#[]⟩) := cell_of_block B5.out 2
      have y2 : w5.frozen? ⟨w.heap.size, 2, none⟩ = false := free_of_block B5.out 2
      have z3 : w5.cell? ⟨w.heap.size, 3, none⟩ = some (.int .i64 0) := cell_of_block B5.out 3
      have y3 : w5.frozen? ⟨w.heap.size, 3, none⟩ = false := free_of_block B5.out 3
      have z4 : w5.cell? ⟨w.heap.size, 4, none⟩ = some (.int .i64 0) := cell_of_block B5.out 4
      have y4 : w5.frozen? ⟨w.heap.size, 4, none⟩ = false := free_of_block B5.out 4
      have hbz : w.heap.size < w5.heap.size := lt_of_some B5.out
      clear hk hrc hfin K4 B4
      go_wp2_with fail
      go_region
      all_goals
        go_wp2
        refine bodyPost_ret (v := .tuple #[.pointer none, .slice none 0 0, faultV 2 pq ⟨#[]⟩ 0 0]) (by simp [results, Tryd.results13, go_sem, z0, z1, z2, z3, z4]) rfl ⟨by repeat (first | exact K5.out | refine Keeps.setCell ?_ (Or.inr (Nat.le_refl _)) _ | refine Keeps.drew ?_), ?_⟩
        rw [HRE.out, HFN.out]
        rfl
end Go.Proofs.YtpbplpnifjbkoaaDoor
