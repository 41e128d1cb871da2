/-
  The parser's calls, by contracts. Printed by gen_parse.py.
-/
import Derived.Test.YtpbplpnifjbkoaaDoorExp
namespace Go.Proofs.YtpbplpnifjbkoaaDoor
open Go.RowKit

def ExpIH (s : ByteArray) (r t n : Nat) : Prop :=
  ∀ ts w res, PC s r t ts w → pExp n ts = some res → Calls Tryd.prog 70 #[.pointer (some ⟨r, 0, none⟩)] w (PPost s r t w id res)
def AtomIH (s : ByteArray) (r t n : Nat) : Prop :=
  ∀ ts w res, PC s r t ts w → pAtom n ts = some res → Calls Tryd.prog 87 #[.pointer (some ⟨r, 0, none⟩)] w (PPost s r t w id res)

/-- A panic on the way: as an outcome of the whole. -/
theorem perr {s : ByteArray} {r t : Nat} {w w' : World} {f : Exp → Exp} {p : Nat} (hk : Keeps [t] w w') : PPost s r t w f (.error p) (.panicked [{ v := stopV p, recovered := false }]) w' := ⟨rfl, hk⟩

theorem kq (a b : Kind) : ((bs (kstr a)).toList == kstr b) = (a == b) := by rw [ByteArray.toList_eq, bs_data]; exact kstr_inj a b
end Go.Proofs.YtpbplpnifjbkoaaDoor
