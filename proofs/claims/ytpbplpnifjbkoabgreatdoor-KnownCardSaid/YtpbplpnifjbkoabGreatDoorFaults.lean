/-
  plain.fault of one of the eight errors, by contract.
-/
import Derived.Test.YtpbplpnifjbkoabGreatDoorMapr
import Derived.Deep.LoopGhost
namespace Go.Proofs.YtpbplpnifjbkoabGreatDoor
open Go.RowKit

theorem eight_nodup (a : Nat → Addr) : ((eight a).toList.map (·.born)).Nodup := (by decide : [0, 1, 2, 3, 4, 5, 6, 7].Nodup)
theorem count0 : 9 = ((List.range 8).filter (fun i => !(#[] : Array Nat).contains i)).length + 1 := by simp [List.range, List.range.loop]
theorem count_lt {seen : Array Nat} {x : Nat} (hx : x < 8) (hn : x ∉ seen) : ((List.range 8).filter (fun i => !(seen.push x).contains i)).length < ((List.range 8).filter (fun i => !seen.contains i)).length := by
  have h : (List.range 8).filter (fun i => !(seen.push x).contains i) = ((List.range 8).filter (fun i => !seen.contains i)).filter (fun i => i != x) := by
    rw [List.filter_filter]
    apply List.filter_congr
    intro i _
    simp only [Array.contains_push]
    by_cases h : i = x
    · simp [h]
    · have hx : (i == x) = false := by simpa using h
      simp [hx, bne]
  rw [h]
  refine List.length_filter_lt_length_iff_exists.2 ⟨x, ?_, by simp⟩
  simp [hx, hn]

theorem gen_world {P : Program} {c : Code} {Q : Exit → Act → World → Prop} {a : Act} {W : World} (p : World → Prop) (h : p W) (hall : ∀ W, p W → c.wp P Q a W) : c.wp P Q a W := hall W h

set_option maxRecDepth 100000 in
set_option maxHeartbeats 4000000 in
theorem fault_sent {a : Nat → Addr} {B : Nat} (w : World) (hG : Gl a B w) (what k : Nat) (hk : sentOf what = some k) :
    Calls Tryz.prog 27 #[sent a k] w fun e w' => e = .returned (faultV what 0 ⟨#[]⟩ 0 0) ∧ Keeps [] w w' := by
  have HG := Lib.hid hG
  have HWK := Lib.hid hk
  clear hG hk
  go_enter Tryz.func27, Tryz.ntmps27
  go_wp2_with fail
  have hv := Fv.start w
  have e2 : w.heap.size + 1 + 1 = w.heap.size + 2 := rfl
  have e3 : w.heap.size + 1 + 1 + 1 = w.heap.size + 3 := rfl
  simp only [e2, e3]
  revert hv
  generalize ((((w.alloc (.cells #[.int .i64 0, .int .i64 0, .string ⟨#[]⟩, .int .i64 0, .int .i64 0] 26)).alloc (.cells #[.pointer none] 135)).alloc (.cells #[.pointer none] 136)).alloc (.cells #[.pointer none] 137)) = W0
  intro hv
  have HV := Lib.hid hv
  clear hv e2 e3
  refine (missStrEnv (HG.out.keeps HV.out.kp (by simp)) _ _).mono ?_
  rintro e w1 ⟨rfl, hk⟩
  have HV1 := Lib.hid (HV.out.step hk)
  clear hk HV
  go_wp2_with fail
  refine (missStrSyn (HG.out.keeps HV1.out.kp (by simp)) _ _).mono ?_
  rintro e w2 ⟨rfl, hk⟩
  have HV2 := Lib.hid (HV1.out.step hk)
  clear hk HV1
  go_wp2_with fail
  refine (missStrUnb (HG.out.keeps HV2.out.kp (by simp)) _ _).mono ?_
  rintro e w3 ⟨rfl, hk⟩
  have HV3 := Lib.hid (HV2.out.step hk)
  clear hk HV2
  have HG3 := HG.out.keeps HV3.out.kp (by simp)
  have g0 := HG3.v0
  have g1 := HG3.v1
  have g2 := HG3.v2
  have g3 := HG3.v3
  have g4 := HG3.v4
  have g5 := HG3.v5
  have g6 := HG3.v6
  have g7 := HG3.v7
  have p0 := lt_of_cell g0
  have p1 := lt_of_cell g1
  have p2 := lt_of_cell g2
  have p3 := lt_of_cell g3
  have p4 := lt_of_cell g4
  have p5 := lt_of_cell g5
  have p6 := lt_of_cell g6
  have p7 := lt_of_cell g7
  have HGG := Lib.hid HG3
  clear HG3
  have hmk := @run_makeMap Tryz.prog 150 w3
  go_wp2_with (first
    | ((refine wpList_insert_last _ rfl _ _ _ 150 rfl 3 61 Tryz.underlying150 Tryz.underlying3 _ _ _ _ rfl rfl rfl (by rfl) ?_))
    | (at_range; refine wpList_range_last _ rfl _ 150 rfl 3 61 Tryz.underlying150 _ _ rfl ?_))
  go_frame
  clear hmk g0 g1 g2 g3 g4 g5 g6 g7 p0 p1 p2 p3 p4 p5 p6 p7
  have hit : ((w3.alloc (.map (eight a) 8)).alloc (.mapIter (some w3.heap.size) 8 #[] 8)).heap[w3.heap.size + 1]? = some (.mapIter (some w3.heap.size) 8 #[] 8) := by
    have := block_alloc (w3.alloc (.map (eight a) 8)) (.mapIter (some w3.heap.size) 8 #[] 8); simpa using this
  have hmp : ((w3.alloc (.map (eight a) 8)).alloc (.mapIter (some w3.heap.size) 8 #[] 8)).heap[w3.heap.size]? = some (.map (eight a) 8) := block_alloc_old (block_alloc _ _)
  have hk4 : Keeps [] w3 ((w3.alloc (.map (eight a) 8)).alloc (.mapIter (some w3.heap.size) 8 #[] 8)) := ((Keeps.refl [] w3).alloc _).alloc _
  refine gen_world (fun W => W.heap[w3.heap.size + 1]? = some (.mapIter (some w3.heap.size) 8 #[] 8) ∧ W.heap[w3.heap.size]? = some (.map (eight a) 8) ∧ Keeps [] w3 W) ⟨hit, hmp, hk4⟩ ?_
  clear hit hmp hk4
  rintro W4 ⟨hit, hmp, hk4⟩
  have HI := Lib.hid hit
  have HM := Lib.hid hmp
  have HK4 := Lib.hid hk4
  clear hit hmp hk4
  go_loopg [9, 10] 9 (fun g x9 x10 wx => ∃ seen : Array Nat, wx.heap[w3.heap.size + 1]? = some (.mapIter (some w3.heap.size) 8 seen 8) ∧ wx.heap[w3.heap.size]? = some (.map (eight a) 8) ∧ k ∉ seen ∧ Keeps [] w3 wx ∧ g = ((List.range 8).filter (fun i => !seen.contains i)).length + 1)
  case atStart => exact ⟨#[], HI.out, HM.out, by simp, HK4.out, count0⟩
  case round =>
    obtain ⟨seen, hr, hb, hns, hk, hg⟩ := hrel
    have HK := Lib.hid hk
    have HGA := Lib.hid hg
    clear hk hg
    go_wp2_with (at_next; go_must (refine wpList_next_map _ rfl _ rfl (w3.heap.size + 1) w3.heap.size 8 seen (eight a) rfl hr hb (by intro x hx; obtain ⟨_, _, _, h8, rfl⟩ := eight_mem hx; exact h8) (eight_nodup a) (by omega) ?_ ?_))
    · intro hall
      obtain ⟨x, hx, rfl⟩ := eight_has (a := a) (sentOf_lt HWK.out)
      exact absurd (hall x (by simpa using hx)) hns
    · intro x w' hx hnx hr' hb' hkp hen
      obtain ⟨wh, kk, hs, hlt, rfl⟩ := eight_mem (a := a) (x := x) (by simpa using hx)
      have HR' := Lib.hid hr'
      have HB' := Lib.hid hb'
      have HK' := Lib.hid (show Keeps [] w3 w' from HK.out.trans hkp (by simp))
      have hF := HV3.out.step HK'.out
      have HF := Lib.hid hF
      have HNX := Lib.hid hnx
      clear hr hb hr' hb' hkp hx hF hnx
      go_wp2_with fail
      refine (is_ij w' (HG.out.keeps HF.out.kp (by simp)) k kk (sentOf_lt HWK.out) hlt).mono ?_
      rintro e w2 ⟨rfl, rfl⟩
      by_cases heq : k = kk
      · subst heq
        obtain rfl := sentOf_inj HWK.out hs
        have hd : decide (k = k) = true := by simp
        have hb0 := HF.out.b0
        have r0 := cell_of_block hb0 0
        have r1 := cell_of_block hb0 1
        have r2 := cell_of_block hb0 2
        have r3 := cell_of_block hb0 3
        have r4 := cell_of_block hb0 4
        have f0 := free_of_block hb0 0
        have f1 := free_of_block hb0 1
        have f2 := free_of_block hb0 2
        have f3 := free_of_block hb0 3
        have f4 := free_of_block hb0 4
        clear hb0
        go_wp2_with fail
        refine bodyPost_ret (v := faultV what 0 ⟨#[]⟩ 0 0) ?_ rfl ?_
        · simp [results, Tryz.results27, go_sem, r0, r1, r2, r3, r4]
        · exact ⟨rfl, by repeat (first | exact HF.out.kp | refine Keeps.setCell ?_ (Or.inr (Nat.le_refl _)) _)⟩
      · have hd : decide (k = kk) = false := by simp [heq]
        go_wp2_with fail
        go_roundg (((List.range 8).filter (fun i => !(seen.push kk).contains i)).length + 1)
        case measure => have := count_lt hlt HNX.out; have := HGA.out; omega
        case rel =>
          refine ⟨seen.push kk, HR'.out, HB'.out, ?_, HK'.out, rfl⟩
          rw [Array.mem_push]
          rintro (h | h)
          · exact hns h
          · exact heq h
end Go.Proofs.YtpbplpnifjbkoabGreatDoor
