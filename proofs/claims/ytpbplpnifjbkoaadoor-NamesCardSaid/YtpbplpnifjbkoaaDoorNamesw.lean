/-
  schemeslaw.Names: the walk.
-/
import Derived.Test.YtpbplpnifjbkoaaDoorNames
import Derived.BigQuiet
import Derived.Deep.QuietTactic
namespace Go.Proofs.YtpbplpnifjbkoaaDoor
open Go.RowKit
set_option maxRecDepth 100000 in
set_option maxHeartbeats 1000000 in
theorem law_names (a : Nat → Addr) (B : Nat) (w : World) (hG : Gl a B w) :
    Calls Tryd.prog 3 #[] w fun e w' => e = .returned (.bool true) ∧ Below w.heap.size w w' := by
  go_enter Tryd.func3, Tryd.ntmps3
  go_wp2_with fail
  refine (names_calls a B w hG).mono ?_
  rintro e w1 ⟨vs, rfl, hb0, hown, hbel⟩
  obtain ⟨g, cap, cur, rfl, hgb, hgh, hc1, hc2, hc3, hc4⟩ : ∃ g cap cur, vs = .slice (some ⟨g, 0, none⟩) 128 cap ∧ w.heap.size + 2 ≤ g ∧ w1.heap[g]? = some (.cells cur 4 (0, 0)) ∧ 128 ≤ cap ∧ cap ≤ maxLen ∧ cur.size = cap * 1 ∧ cur.toList.take (128 * 1) = bl 128 := by
    rcases hown.2 with ⟨_, h⟩ | h
    · omega
    · exact h
  have HB0 := Lib.hid hb0
  have HGH := Lib.hid hgh
  have HC4 := Lib.hid hc4
  clear hb0 hgh hc3 hc4 hown
  go_wp2
  have hb2 : (w1.alloc (.cells #[.int .i64 300, .int .i64 8, .int .i64 40, .int .i64 120, .int .i64 12] 3)).heap[w1.heap.size]? = some (.cells #[.int .i64 300, .int .i64 8, .int .i64 40, .int .i64 120, .int .i64 12] 3 (0, 0)) := block_alloc _ _
  have hbel2 : Below w.heap.size w (w1.alloc (.cells #[.int .i64 300, .int .i64 8, .int .i64 40, .int .i64 120, .int .i64 12] 3)) := hbel.alloc hbel.size _
  go_loopg [29] 6 (fun q c wr => ∃ k : Nat, k ≤ 5 ∧ q = 6 - k ∧ c = .int .i64 k ∧ Below w.heap.size w wr ∧ wr.heap[w.heap.size]? = some (.cells #[.int .i64 300, .int .i64 8, .int .i64 40, .int .i64 120, .int .i64 12] 3 (0, 0)) ∧
      wr.heap[w1.heap.size]? = some (.cells #[.int .i64 300, .int .i64 8, .int .i64 40, .int .i64 120, .int .i64 12] 3 (0, 0)) ∧ wr.heap[g]? = some (.cells cur 4 (0, 0)))
  case atStart => exact ⟨0, by omega, rfl, rfl, hbel2, block_alloc_old HB0.out, hb2, block_alloc_old HGH.out⟩
  case round =>
    obtain ⟨k, hk, hq, rfl, hbr, hr0, hr1, hrg⟩ := hrel
    clear hb2 hbel2 HB0 HGH
    have HQ := Lib.hid hq
    have HR0 := Lib.hid hr0
    have HR1 := Lib.hid hr1
    have HRG := Lib.hid hrg
    clear hq hr0 hr1 hrg
    by_cases hlt : k < 5
    · obtain ⟨n, hn⟩ : ∃ n : Int, (#[.int .i64 300, .int .i64 8, .int .i64 40, .int .i64 120, .int .i64 12] : Array Value)[k]? = some (.int .i64 n) := by
        match k, hlt with
        | 0, _ => exact ⟨_, rfl⟩
        | 1, _ => exact ⟨_, rfl⟩
        | 2, _ => exact ⟨_, rfl⟩
        | 3, _ => exact ⟨_, rfl⟩
        | 4, _ => exact ⟨_, rfl⟩
      have c0 := (cell_of_block HR0.out k).trans hn
      have c1 := (cell_of_block HR1.out k).trans hn
      clear hn
      have hdk : decide ((k : Int) < 5) = true := by simp; omega
      go_wp2_with fail
      go_quiet (fail)
      clear hdk c0 c1
      go_wp2
      go_roundg (6 - (k + 1))
      case measure => have := HQ.out; omega
      case rel => exact ⟨k + 1, by omega, rfl, by go_num, ⟨hbr.os, hbr.tape, hbr.output, hbr.size, hbr.block⟩, HR0.out, HR1.out, HRG.out⟩
    · obtain rfl : k = 5 := by omega
      go_wp2
      go_loopg [44] 129 (fun q c wx => ∃ k : Nat, k ≤ 128 ∧ q = 129 - k ∧ c = .int .i64 k ∧ Below w.heap.size w wx ∧ wx.heap[g]? = some (.cells cur 4 (0, 0)))
      case atStart => exact ⟨0, by omega, rfl, rfl, hbr, HRG.out⟩
      case round =>
        obtain ⟨k, hk, hq, rfl, hbr, hrg⟩ := hrel
        clear HR0 HR1 HRG HQ
        have HQ := Lib.hid hq
        have HRG := Lib.hid hrg
        clear hq hrg
        by_cases hlt : k < 128
        · have hdk : decide ((k : Int) < 128) = true := by simp; omega
          have hcell : wr.cell? ⟨g, k, none⟩ = some (.bool (decide (k / 16 = k % 16 / 2))) := by
            rw [cell_of_block HRG.out k]
            have h1 : (cur.toList.take (128 * 1))[k]? = (bl 128)[k]? := by rw [HC4.out]
            rw [List.getElem?_take] at h1
            rw [if_pos (by omega)] at h1
            rw [← Array.getElem?_toList, h1]
            simp [bl, hlt]
          have hcmp : (!decide (k / 16 = k % 16 / 2) == ((k : Int) / 16 == (k : Int) % 16 / 2)) = false := by
            have : ((k : Int) / 16 == (k : Int) % 16 / 2) = decide (k / 16 = k % 16 / 2) := by rw [Bool.eq_iff_iff]; simp; omega
            rw [this]; cases decide (k / 16 = k % 16 / 2) <;> rfl
          clear HC4
          go_wp2
          clear hcmp
          go_roundg (129 - (k + 1))
          case measure => have := HQ.out; omega
          case rel => exact ⟨k + 1, by omega, rfl, by go_num, hbr, HRG.out⟩
        · obtain rfl : k = 128 := by omega
          go_wp2
          go_ret
          exact ⟨rfl, hbr⟩
end Go.Proofs.YtpbplpnifjbkoaaDoor
