/-
  schemeslaw.said, by contract.
-/
import Derived.Test.YtpbplpnifjbkoaaDoorPlainShow
namespace Go.Proofs.YtpbplpnifjbkoaaDoor
open Go.RowKit

set_option maxRecDepth 100000 in
set_option maxHeartbeats 2000000 in
theorem said_any (a b c d : Int) (s : ByteArray) (w : World) : Calls Tryd.prog 10 #[faultV a b s c d] w fun e w' => e = .returned (faultV a b s c d) ∧ Keeps [] w w' := by
  go_enter Tryd.func10, Tryd.ntmps10
  go_wp2
  exact bodyPost_ret (v := faultV a b s c d) (by simp [results, Tryd.results10, go_sem]) rfl ⟨rfl, ((Keeps.refl [] w).alloc _).alloc _⟩

end Go.Proofs.YtpbplpnifjbkoaaDoor
