/-
  DERIVED. GIVEN WITH THE SEED: THE CARDS: each row of YtpbplpnifjbkoaaDoorRows.lean that lists a variable, with what it lists TIED to the program's text (the seventh form; the later family's looks); each row that meets fmt, with fmt's text TOLD by the authors' own Lean function (tested against real Go, not proved from fmt's source: count such statements apart). THE CARD IS WHAT COUNTS. Prove the row's statement (the work); the ties are given (YtpbplpnifjbkoaaDoorTie.lean); close each card by the builder's one call (the guide's Derived/Test/ToyasCard.lean, 'card_holds'). Laid BY PROGRAM, IN A SANDBOX (cutbox-door.mjs). By AI agents, Wed Nov 11 2026. No macro, syntax, notation, axiom, sorry.
-/
import Derived.Test.YtpbplpnifjbkoaaDoorRows
import GoSem.ClaimSeven
namespace Go.Proofs.YtpbplpnifjbkoaaDoor
namespace Rows

/-- THE TIED CARD OF 'schemeslaw.Names'. -/
def namesCard : Claim7 := { stood := { row := namesRow, standIns := [], harness := (true, "165d8a33b66cecdec47b900760e4961e4dfbda060360b32869911de3b7180f6b"), looks := true }, kinds := [], alts := [], laidByText := true, laidKinds := [.handle, .sentinel, .sentinel, .sentinel, .sentinel, .sentinel, .sentinel, .sentinel, .sentinel], laidTests := true, laidLooks := .later }
def NamesCardSaid : Prop := Claim7.holds Tryd.pinned (.plain (OpenSpec.ofChange namesSpec)) namesCard

/-- THE TIED CARD OF 'schemeslaw.Shows'. -/
def showsCard : Claim7 := { stood := { row := showsRow, standIns := [], harness := (true, "165d8a33b66cecdec47b900760e4961e4dfbda060360b32869911de3b7180f6b"), looks := true }, kinds := [], alts := [], laidByText := true, laidKinds := [.handle, .sentinel, .sentinel, .sentinel, .sentinel, .sentinel, .sentinel, .sentinel, .sentinel], laidTests := true, laidLooks := .later }
def ShowsCardSaid : Prop := Claim7.holds Tryd.pinned (.plain (OpenSpec.ofChange showsSpec)) showsCard

/-- THE TIED CARD OF 'schemeslaw.Canons'. -/
def canonsCard : Claim7 := { stood := { row := canonsRow, standIns := [], harness := (true, "165d8a33b66cecdec47b900760e4961e4dfbda060360b32869911de3b7180f6b"), looks := true }, kinds := [], alts := [], laidByText := true, laidKinds := [.data, .data, .data, .handle, .sentinel, .sentinel, .sentinel, .sentinel, .sentinel, .sentinel, .sentinel, .sentinel], laidTests := true, laidLooks := .later }
def CanonsCardSaid : Prop := Claim7.holds Tryd.pinned (.plain (OpenSpec.ofChange canonsSpec)) canonsCard

/-- THE TIED CARD OF 'schemeslaw.Instances'. -/
def instancesCard : Claim7 := { stood := { row := instancesRow, standIns := [], harness := (true, "165d8a33b66cecdec47b900760e4961e4dfbda060360b32869911de3b7180f6b"), looks := true }, kinds := [], alts := [], laidByText := true, laidKinds := [.handle, .sentinel, .sentinel, .sentinel, .sentinel, .sentinel, .sentinel, .sentinel, .sentinel], laidTests := true, laidLooks := .later }
def InstancesCardSaid : Prop := Claim7.holds Tryd.pinned (.plain (OpenSpec.ofChange instancesSpec)) instancesCard

/-- THE SECOND FORM's CARD OF 'schemeslaw.Names'. -/
def namesUptoCard : Claim7 := { stood := { row := namesUptoRow, standIns := [], harness := (true, "165d8a33b66cecdec47b900760e4961e4dfbda060360b32869911de3b7180f6b"), looks := true }, kinds := [], alts := [], laidByText := true, laidKinds := [.handle, .sentinel, .sentinel, .sentinel, .sentinel, .sentinel, .sentinel, .sentinel, .sentinel], laidTests := true, laidLooks := .later }
def NamesUptoCardSaid : Prop := Claim7.holds Tryd.pinned (.plain (OpenSpec.upto namesSpec)) namesUptoCard

/-- THE SECOND FORM's CARD OF 'schemeslaw.Shows'. -/
def showsUptoCard : Claim7 := { stood := { row := showsUptoRow, standIns := [], harness := (true, "165d8a33b66cecdec47b900760e4961e4dfbda060360b32869911de3b7180f6b"), looks := true }, kinds := [], alts := [], laidByText := true, laidKinds := [.handle, .sentinel, .sentinel, .sentinel, .sentinel, .sentinel, .sentinel, .sentinel, .sentinel], laidTests := true, laidLooks := .later }
def ShowsUptoCardSaid : Prop := Claim7.holds Tryd.pinned (.plain (OpenSpec.upto showsSpec)) showsUptoCard

/-- THE SECOND FORM's CARD OF 'schemeslaw.Canons'. -/
def canonsUptoCard : Claim7 := { stood := { row := canonsUptoRow, standIns := [], harness := (true, "165d8a33b66cecdec47b900760e4961e4dfbda060360b32869911de3b7180f6b"), looks := true }, kinds := [], alts := [], laidByText := true, laidKinds := [.data, .data, .data, .handle, .sentinel, .sentinel, .sentinel, .sentinel, .sentinel, .sentinel, .sentinel, .sentinel], laidTests := true, laidLooks := .later }
def CanonsUptoCardSaid : Prop := Claim7.holds Tryd.pinned (.plain (OpenSpec.upto canonsSpec)) canonsUptoCard

/-- THE SECOND FORM's CARD OF 'schemeslaw.Instances'. -/
def instancesUptoCard : Claim7 := { stood := { row := instancesUptoRow, standIns := [], harness := (true, "165d8a33b66cecdec47b900760e4961e4dfbda060360b32869911de3b7180f6b"), looks := true }, kinds := [], alts := [], laidByText := true, laidKinds := [.handle, .sentinel, .sentinel, .sentinel, .sentinel, .sentinel, .sentinel, .sentinel, .sentinel], laidTests := true, laidLooks := .later }
def InstancesUptoCardSaid : Prop := Claim7.holds Tryd.pinned (.plain (OpenSpec.upto instancesSpec)) instancesUptoCard
end Rows
end Go.Proofs.YtpbplpnifjbkoaaDoor
