/-
  schemeskeep.Path, whole.
-/
import Derived.Test.YtpbplpnifjbkoaaGreatDoorKinf
import Derived.Test.YtpbplpnifjbkoaaGreatDoorPx
namespace Go.Proofs.YtpbplpnifjbkoaaGreatDoor
open Go.RowKit

theorem path_fine : ((List.range 4).all fun d => (pathsP d).all fun p => decide (300 < (goneP p (treeP d p 0).1).length) || fineB (goneP p (treeP d p 0).1) (treeP d p 0).2.1) = true := by decide +kernel
theorem path_whole {a : Nat → Addr} {B : Nat} (w : World) (hG : Gl a B w) (path : ByteArray) (c : Int) (hc : -9223372036854775808 ≤ c ∧ c ≤ 9223372036854775807) :
    Calls Tryz.prog 10 #[.string path, .int .i64 c] w fun e w' => e = .returned (.bool true) ∧ Keeps [] w w' := by
  refine path_law path c hc (fun p hp hl => kinf_fine ?_) w hG
  have h1 := List.all_eq_true.1 (List.all_eq_true.1 path_fine p.length (List.mem_range.2 hp)) p (mem_paths p)
  rw [Bool.or_eq_true] at h1
  rcases h1 with h1 | h1
  · have := of_decide_eq_true h1; omega
  · exact h1
end Go.Proofs.YtpbplpnifjbkoaaGreatDoor
