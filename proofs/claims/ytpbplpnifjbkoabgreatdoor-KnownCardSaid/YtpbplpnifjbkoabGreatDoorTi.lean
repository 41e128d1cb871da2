/-
  schemeskeep.pick, has, Times: by contracts, out of what infer comes to.
-/
import Derived.Test.YtpbplpnifjbkoabGreatDoorPt
import Derived.Test.YtpbplpnifjbkoabGreatDoorFaults
namespace Go.Proofs.YtpbplpnifjbkoabGreatDoor
open Go.RowKit

def pickK (c : Int) (n : Nat) : Nat := ((if c < 0 then -(c + 1) else c) % (n : Int)).toNat
theorem pickK_lt (c : Int) (n : Nat) (hn : 1 ≤ n) : pickK c n < n := by
  unfold pickK
  have h1 := Int.emod_lt_of_pos (if c < 0 then -(c + 1) else c) (show (0 : Int) < n by omega)
  have h2 := Int.emod_nonneg (if c < 0 then -(c + 1) else c) (show (n : Int) ≠ 0 by omega)
  omega
set_option maxRecDepth 100000 in
set_option maxHeartbeats 2000000 in
theorem pick_any (c : Int) (hc : -9223372036854775808 ≤ c ∧ c ≤ 9223372036854775807) (n : Nat) (hn : 1 ≤ n) (hn2 : n ≤ 1000) (w : World) :
    Calls Tryz.prog 8 #[.int .i64 c, .int .i64 n] w fun e w' => e = .returned (.int .i64 (pickK c n : Nat)) ∧ w = w' := by
  have hm : ∀ x : Int, 0 ≤ x → x ≤ 9223372036854775807 → Int.tmod x n = ((x % (n : Int)).toNat : Nat) := fun x h0 _ => by
    rw [Int.tmod_eq_emod_of_nonneg h0]
    have := Int.emod_nonneg x (show (n : Int) ≠ 0 by omega)
    omega
  have hlt : ∀ x : Int, (x % (n : Int)).toNat < n := fun x => by
    have h1 := Int.emod_lt_of_pos x (show (0 : Int) < n by omega)
    have h2 := Int.emod_nonneg x (show (n : Int) ≠ 0 by omega)
    omega
  have hnz : ¬ ((n : Int) = 0) := by omega
  by_cases h : c < 0
  · have hd : decide (c < 0) = true := by simpa using h
    have hp : pickK c n = ((-(c + 1)) % (n : Int)).toNat := by unfold pickK; rw [if_pos h]
    rw [hp]
    have hq := hm (-(c + 1)) (by omega) (by omega)
    have hl := hlt (-(c + 1))
    go_enter Tryz.func8, Tryz.ntmps8
    go_wp2
    go_ret
    first
      | exact ⟨rfl, rfl⟩
      | (refine ⟨?_, rfl⟩
         rw [Int.toNat_eq_max]
         rfl)
  · have hd : decide (c < 0) = false := by simpa using h
    have hp : pickK c n = (c % (n : Int)).toNat := by unfold pickK; rw [if_neg h]
    rw [hp]
    have hq := hm c (by omega) (by omega)
    have hl := hlt c
    go_enter Tryz.func8, Tryz.ntmps8
    go_wp2
    go_ret
    first
      | exact ⟨rfl, rfl⟩
      | (refine ⟨?_, rfl⟩
         rw [Int.toNat_eq_max]
         rfl)

/-- What the law's infer comes to at an expression. -/
def KInf (a : Nat → Addr) (B : Nat) (src t : Bytes) (f : FaultR) : Prop := ∀ (w : World), Gl a B w → Calls Tryz.prog 17 #[.string (bs src)] w fun e w' => e = .returned (.tuple #[.string (bs t), faultV f.what f.at_ (bs f.s) f.inner f.innerAt]) ∧ Keeps [] w w'
end Go.Proofs.YtpbplpnifjbkoabGreatDoor
