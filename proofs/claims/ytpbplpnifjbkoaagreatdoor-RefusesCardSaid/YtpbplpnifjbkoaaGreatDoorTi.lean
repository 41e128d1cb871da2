/-
  schemeskeep.pick, has, Times: by contracts, out of what infer comes to.
-/
import Derived.Test.YtpbplpnifjbkoaaGreatDoorPt
import Derived.Test.YtpbplpnifjbkoaaGreatDoorFaults
namespace Go.Proofs.YtpbplpnifjbkoaaGreatDoor
open Go.RowKit

def pickK (c : Int) (n : Nat) : Nat := ((if c < 0 then -(c + 1) else c) % (n : Int)).toNat
theorem pickK_lt (c : Int) (n : Nat) (hn : 1 ≤ n) : pickK c n < n := by
  unfold pickK
  have h1 := Int.emod_lt_of_pos (if c < 0 then -(c + 1) else c) (show (0 : Int) < n by omega)
  have h2 := Int.emod_nonneg (if c < 0 then -(c + 1) else c) (show (n : Int) ≠ 0 by omega)
  omega
set_option maxRecDepth 100000 in
set_option maxHeartbeats 2000000 in
theorem pick_any (c : Int) (hc : -9223372036854775808 ≤ c ∧ c ≤ 9223372036854775807) (n : Nat) (hn : 1 ≤ n) (hn2 : n ≤ 1000) (w : World) :
    Calls Tryz.prog 12 #[.int .i64 c, .int .i64 n] w fun e w' => e = .returned (.int .i64 (pickK c n : Nat)) ∧ w = w' := by
  have hm : ∀ x : Int, 0 ≤ x → x ≤ 9223372036854775807 → Int.tmod x n = ((x % (n : Int)).toNat : Nat) := fun x h0 _ => by
    rw [Int.tmod_eq_emod_of_nonneg h0]
    have := Int.emod_nonneg x (show (n : Int) ≠ 0 by omega)
    omega
  have hlt : ∀ x : Int, (x % (n : Int)).toNat < n := fun x => by
    have h1 := Int.emod_lt_of_pos x (show (0 : Int) < n by omega)
    have h2 := Int.emod_nonneg x (show (n : Int) ≠ 0 by omega)
    omega
  have hnz : ¬ ((n : Int) = 0) := by omega
  by_cases h : c < 0
  · have hd : decide (c < 0) = true := by simpa using h
    have hp : pickK c n = ((-(c + 1)) % (n : Int)).toNat := by unfold pickK; rw [if_pos h]
    rw [hp]
    have hq := hm (-(c + 1)) (by omega) (by omega)
    have hl := hlt (-(c + 1))
    go_enter Tryz.func12, Tryz.ntmps12
    go_wp2
    go_ret
    first
      | exact ⟨rfl, rfl⟩
      | (refine ⟨?_, rfl⟩
         rw [Int.toNat_eq_max]
         rfl)
  · have hd : decide (c < 0) = false := by simpa using h
    have hp : pickK c n = (c % (n : Int)).toNat := by unfold pickK; rw [if_neg h]
    rw [hp]
    have hq := hm c (by omega) (by omega)
    have hl := hlt c
    go_enter Tryz.func12, Tryz.ntmps12
    go_wp2
    go_ret
    first
      | exact ⟨rfl, rfl⟩
      | (refine ⟨?_, rfl⟩
         rw [Int.toNat_eq_max]
         rfl)

/-- What the law's infer comes to at an expression. -/
def KInf (a : Nat → Addr) (B : Nat) (src t : Bytes) (f : FaultR) : Prop := ∀ (w : World), Gl a B w → Calls Tryz.prog 62 #[.string (bs src)] w fun e w' => e = .returned (.tuple #[.string (bs t), faultV f.what f.at_ (bs f.s) f.inner f.innerAt]) ∧ Keeps [] w w'
set_option maxRecDepth 100000 in
set_option maxHeartbeats 2000000 in
theorem has_any {a : Nat → Addr} {B : Nat} {src t : Bytes} (typ : Bytes) (hI : KInf a B src t ⟨0, 0, [], 0, 0⟩) (w : World) (hG : Gl a B w) :
    Calls Tryz.prog 29 #[.string (bs src), .string (bs typ)] w fun e w' => e = .returned (.bool (decide (t = typ))) ∧ Keeps [] w w' := by
  have HC := Lib.hid (hI w hG)
  have hd : ((bs t).toList == (bs typ).toList) = decide (t = typ) := by rw [ByteArray.toList_eq, ByteArray.toList_eq, bs_data, bs_data]; exact Bool.eq_iff_iff.2 (by simp)
  clear hI hG
  generalize decide (t = typ) = q at hd ⊢
  go_enter Tryz.func29, Tryz.ntmps29
  go_wp2_with fail
  refine HC.out.mono ?_
  rintro e w1 ⟨rfl, hk⟩
  have HK := Lib.hid hk
  clear hk HC
  go_wp2
  go_ret
  exact ⟨rfl, HK.out.alloc _⟩

theorem timesS_len (n : Nat) : (timesS n).length = 4 * n + 1 := by
  induction n with
  | zero => rfl
  | succ n ih => simp only [timesS, List.length_append, ih, List.length_cons, List.length_nil]; omega
set_option maxRecDepth 100000 in
set_option maxHeartbeats 4000000 in
theorem times_law {a : Nat → Addr} {B : Nat} (c : Int) (hc : -9223372036854775808 ≤ c ∧ c ≤ 9223372036854775807) (hI : ∀ n, n < 20 → KInf a B (timesSrc n) (timesTyp n) ⟨0, 0, [], 0, 0⟩) (w : World) (hG : Gl a B w) :
    Calls Tryz.prog 9 #[.int .i64 c] w fun e w' => e = .returned (.bool true) ∧ Keeps [] w w' := by
  have HI := Lib.hid hI
  have HG := Lib.hid hG
  clear hI hG
  go_enter Tryz.func9, Tryz.ntmps9
  go_wp2_with fail
  refine (pick_any c hc 20 (by omega) (by omega) w).mono ?_
  rintro e w1 ⟨rfl, rfl⟩
  have hn := pickK_lt c 20 (by omega)
  generalize pickK c 20 = n at hn ⊢
  go_wp2_with fail
  go_loopg [3, 8] n (fun gg s i wx => ∃ j : Nat, gg = n - j ∧ i = .int .i64 j ∧ j ≤ n ∧ s = .string (bs (timesS j)) ∧ Keeps [] w wx)
  case atStart => exact ⟨0, rfl, rfl, by omega, rfl, Keeps.refl _ _⟩
  case round =>
    obtain ⟨j, hg, rfl, hj, rfl, hk⟩ := hrel
    have HGG := Lib.hid hg
    have HK := Lib.hid hk
    clear hg hk
    have hz : (bs (timesS j)).size = 4 * j + 1 := by rw [bs_size, timesS_len]
    by_cases hlt : j < n
    · have hdl : decide ((j : Int) < (n : Int)) = true := by simpa using hlt
      have s1 : ¬ 9223372036854775807 < 3 + (bs (timesS j)).size := by omega
      have s2 : ¬ 9223372036854775807 < 3 + (bs (timesS j)).size + 1 := by omega
      go_wp2_with fail
      go_roundg (n - (j + 1))
      case measure => have := HGG.out; omega
      case rel =>
        refine ⟨j + 1, rfl, by go_num, by omega, ?_, HK.out⟩
        refine congrArg Value.string (ba_ext ?_)
        simp [ByteArray.data_append, Array.toList_append, bs_data, timesS]
    · have hdl : decide ((j : Int) < (n : Int)) = false := by simpa using hlt
      obtain rfl : j = n := by omega
      have hsrc : (⟨#[102, 117, 110, 32, 102, 32, 45, 62, 32, 102, 117, 110, 32, 120, 32, 45, 62, 32]⟩ : ByteArray) ++ bs (timesS j) = bs (timesSrc j) := by
        refine ba_ext ?_
        simp [ByteArray.data_append, Array.toList_append, bs_data, timesSrc]
      have s3 : ¬ 9223372036854775807 < 18 + (bs (timesS j)).size := by omega
      have HS := Lib.hid hsrc
      have HCALL := Lib.hid (fun (W : World) (hk : Keeps [] w W) (typ : Bytes) => has_any (src := timesSrc j) (t := timesTyp j) typ (HI.out j hn) W (HG.out.keeps hk (by simp)))
      clear hsrc
      by_cases h0 : j = 0
      · subst h0
        have HC := Lib.hid (HCALL.out _ HK.out (timesTyp 0))
        go_wp2_with fail
        rw [HS.out]
        refine HC.out.mono ?_
        rintro e w1 ⟨rfl, hk1⟩
        simp only [decide_true]
        have HK1 := Lib.hid (HK.out.trans0 hk1)
        clear hk1
        go_wp2
        go_ret
        exact ⟨rfl, HK1.out⟩
      · by_cases h1 : j = 1
        · subst h1
          have HC := Lib.hid (HCALL.out _ HK.out (timesTyp 1))
          go_wp2_with fail
          rw [HS.out]
          refine HC.out.mono ?_
          rintro e w1 ⟨rfl, hk1⟩
          simp only [decide_true]
          have HK1 := Lib.hid (HK.out.trans0 hk1)
          clear hk1
          go_wp2
          go_ret
          exact ⟨rfl, HK1.out⟩
        · have d0 : decide ((j : Int) = 0) = false := by simp; omega
          have d1 : decide ((j : Int) = 1) = false := by simp; omega
          have ht : timesTyp j = timesTyp 2 := by
            match j, h0, h1 with
            | n + 2, _, _ => rfl
          rw [ht] at HCALL
          have HC := Lib.hid (HCALL.out _ HK.out (timesTyp 2))
          go_wp2_with fail
          rw [HS.out]
          refine HC.out.mono ?_
          rintro e w1 ⟨rfl, hk1⟩
          simp only [decide_true]
          have HK1 := Lib.hid (HK.out.trans0 hk1)
          clear hk1
          go_wp2
          go_ret
          exact ⟨rfl, HK1.out⟩
end Go.Proofs.YtpbplpnifjbkoaaGreatDoor
