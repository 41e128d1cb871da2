/-
  What the plain inference says of applied functions, of pairs gone along, of chained names, of rounds that do not end. No program in sight.
-/
import Derived.Test.YtpbplpnifjbkoabGreatDoorEng
namespace Go.Proofs.YtpbplpnifjbkoabGreatDoor

/-- The names and types by which Times, Path, Known infer, by names rising. -/
def envK : List (Bytes × Bytes) := [([97, 100, 100], [105, 110, 116, 32, 45, 62, 32, 105, 110, 116, 32, 45, 62, 32, 105, 110, 116]), ([99, 111, 110, 115], [97, 32, 45, 62, 32, 91, 97, 93, 32, 45, 62, 32, 91, 97, 93]), ([101, 109, 112, 116, 121], [91, 120, 93, 32, 45, 62, 32, 98, 111, 111, 108]), ([101, 113], [97, 32, 45, 62, 32, 97, 32, 45, 62, 32, 98, 111, 111, 108]), ([102, 115, 116], [40, 97, 44, 32, 98, 41, 32, 45, 62, 32, 97]), ([104, 100], [91, 97, 93, 32, 45, 62, 32, 97]), ([110, 105, 108], [91, 97, 93]), ([115, 110, 100], [40, 97, 44, 32, 98, 41, 32, 45, 62, 32, 98]), ([116, 108], [91, 97, 93, 32, 45, 62, 32, 91, 97, 93]), ([116, 114, 117, 101], [98, 111, 111, 108])]
/-- An answer: type and fault alone. -/
def ansP (src : Bytes) : Option (Bytes × FaultR) := (inferP 400 src envK 6 none).map fun p => (p.1, p.2.1)
def fine (t : Bytes) : Option (Bytes × FaultR) := some (t, ⟨0, 0, [], 0, 0⟩)

/-! ### A function applied n times -/
def timesS : Nat → Bytes
  | 0 => [120]
  | n + 1 => [102, 32, 40] ++ timesS n ++ [41]
def timesSrc (n : Nat) : Bytes := [102, 117, 110, 32, 102, 32, 45, 62, 32, 102, 117, 110, 32, 120, 32, 45, 62, 32] ++ timesS n
def timesTyp : Nat → Bytes
  | 0 => [97, 32, 45, 62, 32, 98, 32, 45, 62, 32, 98]
  | 1 => [40, 97, 32, 45, 62, 32, 98, 41, 32, 45, 62, 32, 97, 32, 45, 62, 32, 98]
  | _ => [40, 97, 32, 45, 62, 32, 97, 41, 32, 45, 62, 32, 97, 32, 45, 62, 32, 97]
theorem times_all : ((List.range 20).all fun n => decide (ansP (timesSrc n) = fine (timesTyp n))) = true := by decide +kernel

/-! ### Pairs of pairs -/
def leavesP : List Bytes := [[49], [116, 114, 117, 101], [110, 105, 108], [97, 100, 100], [104, 100]]
def typsP : List Bytes := [[105, 110, 116], [98, 111, 111, 108], [91, 97, 93], [105, 110, 116, 32, 45, 62, 32, 105, 110, 116, 32, 45, 62, 32, 105, 110, 116], [91, 97, 93, 32, 45, 62, 32, 97]]
/-- Pairs as deep as may be, from a number of leaves on; the type of the leaf that a path leads to; how many leaves there are then. -/
def treeP : Nat → List Bool → Nat → Bytes × Bytes × Nat
  | 0, _, n => (leavesP.getD (n % 5) [], typsP.getD (n % 5) [], n + 1)
  | d + 1, p, n =>
    let a := treeP d p.tail n
    let b := treeP d p.tail a.2.2
    ([40] ++ a.1 ++ [44, 32] ++ b.1 ++ [41], if p.head? = some true then b.2.1 else a.2.1, b.2.2)
def goneP : List Bool → Bytes → Bytes
  | [], s => s
  | b :: r, s => goneP r ((if b = true then [115, 110, 100] else [102, 115, 116]) ++ [32, 40] ++ s ++ [41])
def pathsP : Nat → List (List Bool)
  | 0 => [[]]
  | d + 1 => (pathsP d).map (false :: ·) ++ (pathsP d).map (true :: ·)
theorem path_all : ((List.range 4).all fun d => (pathsP d).all fun p => let t := treeP d p 0; decide (300 < (goneP p t.1).length) || decide (ansP (goneP p t.1) = fine t.2.1)) = true := by decide +kernel

end Go.Proofs.YtpbplpnifjbkoabGreatDoor
