/-
  DERIVED. GIVEN WITH THE SEED: THE CARDS: each row of YtpbplpnifjbkoaaGreatDoorRows.lean that lists a variable, with what it lists TIED to the program's text (the seventh form; the later family's looks); each row that meets fmt, with fmt's text TOLD by the authors' own Lean function (tested against real Go, not proved from fmt's source: count such statements apart). THE CARD IS WHAT COUNTS. Prove the row's statement (the work); the ties are given (YtpbplpnifjbkoaaGreatDoorTie.lean); close each card by the builder's one call (the guide's Derived/Test/ToyasCard.lean, 'card_holds'). Laid BY PROGRAM, IN A SANDBOX (cutbox-door.mjs). By AI agents, Wed Nov 11 2026. No macro, syntax, notation, axiom, sorry.
-/
import Derived.Test.YtpbplpnifjbkoaaGreatDoorRows
import GoSem.ClaimSeven
namespace Go.Proofs.YtpbplpnifjbkoaaGreatDoor
namespace Rows

/-- THE TIED CARD OF 'schemeskeep.Refuses'. -/
def refusesCard : Claim7 := { stood := { row := refusesRow, standIns := [], harness := (true, "aa3800b1c3bf1b7b16730530079b90402e8950117fd9c4a7c5a2c1dd89e87b51"), looks := true }, kinds := [], alts := [], laidByText := true, laidKinds := [.data, .data, .data, .handle, .sentinel, .sentinel, .sentinel, .sentinel, .sentinel, .sentinel, .sentinel, .sentinel], laidTests := true, laidLooks := .later }
def RefusesCardSaid : Prop := Claim7.holds Tryz.pinned (.plain (OpenSpec.ofChange refusesSpec)) refusesCard

/-- THE TIED CARD OF 'schemeskeep.Renamed'. -/
def renamedCard : Claim7 := { stood := { row := renamedRow, standIns := [], harness := (true, "aa3800b1c3bf1b7b16730530079b90402e8950117fd9c4a7c5a2c1dd89e87b51"), looks := true }, kinds := [], alts := [], laidByText := true, laidKinds := [.data, .data, .data, .handle, .sentinel, .sentinel, .sentinel, .sentinel, .sentinel, .sentinel, .sentinel, .sentinel], laidTests := true, laidLooks := .later }
def RenamedCardSaid : Prop := Claim7.holds Tryz.pinned (.plain (OpenSpec.ofChange renamedSpec)) renamedCard

/-- THE TIED CARD OF 'schemeslaw.All'. -/
def allCard : Claim7 := { stood := { row := allRow, standIns := [], harness := (true, "aa3800b1c3bf1b7b16730530079b90402e8950117fd9c4a7c5a2c1dd89e87b51"), looks := true }, kinds := [], alts := [], laidByText := true, laidKinds := [.data, .data, .data, .handle, .sentinel, .sentinel, .sentinel, .sentinel, .sentinel, .sentinel, .sentinel, .sentinel], laidTests := true, laidLooks := .later }
def AllCardSaid : Prop := Claim7.holds Tryz.pinned (.plain (OpenSpec.ofChange allSpec)) allCard

/-- THE TIED CARD OF 'schemeslaw.Plain'. -/
def plainCard : Claim7 := { stood := { row := plainRow, standIns := [], harness := (true, "aa3800b1c3bf1b7b16730530079b90402e8950117fd9c4a7c5a2c1dd89e87b51"), looks := true }, kinds := [], alts := [], laidByText := true, laidKinds := [.data, .data, .data, .handle, .sentinel, .sentinel, .sentinel, .sentinel, .sentinel, .sentinel, .sentinel, .sentinel], laidTests := true, laidLooks := .later }
def PlainCardSaid : Prop := Claim7.holds Tryz.pinned (.plain (OpenSpec.ofChange plainSpec)) plainCard

/-- THE TIED CARD OF 'schemeslaw.Infers'. -/
def infersCard : Claim7 := { stood := { row := infersRow, standIns := [], harness := (true, "aa3800b1c3bf1b7b16730530079b90402e8950117fd9c4a7c5a2c1dd89e87b51"), looks := true }, kinds := [], alts := [], laidByText := true, laidKinds := [.data, .data, .data, .handle, .sentinel, .sentinel, .sentinel, .sentinel, .sentinel, .sentinel, .sentinel, .sentinel], laidTests := true, laidLooks := .later }
def InfersCardSaid : Prop := Claim7.holds Tryz.pinned (.plain (OpenSpec.ofChange infersSpec)) infersCard

/-- THE TIED CARD OF 'schemeslaw.Steady'. -/
def steadyCard : Claim7 := { stood := { row := steadyRow, standIns := [], harness := (true, "aa3800b1c3bf1b7b16730530079b90402e8950117fd9c4a7c5a2c1dd89e87b51"), looks := true }, kinds := [], alts := [], laidByText := true, laidKinds := [.data, .data, .data, .handle, .sentinel, .sentinel, .sentinel, .sentinel, .sentinel, .sentinel, .sentinel, .sentinel], laidTests := true, laidLooks := .later }
def SteadyCardSaid : Prop := Claim7.holds Tryz.pinned (.plain (OpenSpec.ofChange steadySpec)) steadyCard

/-- THE TIED CARD OF 'schemeskeep.Times'. -/
def timesCard : Claim7 := { stood := { row := timesRow, standIns := [], harness := (true, "aa3800b1c3bf1b7b16730530079b90402e8950117fd9c4a7c5a2c1dd89e87b51"), looks := true }, kinds := [], alts := [], laidByText := true, laidKinds := [.data, .data, .data, .handle, .sentinel, .sentinel, .sentinel, .sentinel, .sentinel, .sentinel, .sentinel, .sentinel], laidTests := true, laidLooks := .later }
def TimesCardSaid : Prop := Claim7.holds Tryz.pinned (.plain (OpenSpec.ofChange timesSpec)) timesCard

/-- THE TIED CARD OF 'schemeskeep.Path'. -/
def pathCard : Claim7 := { stood := { row := pathRow, standIns := [], harness := (true, "aa3800b1c3bf1b7b16730530079b90402e8950117fd9c4a7c5a2c1dd89e87b51"), looks := true }, kinds := [], alts := [], laidByText := true, laidKinds := [.data, .data, .data, .handle, .sentinel, .sentinel, .sentinel, .sentinel, .sentinel, .sentinel, .sentinel, .sentinel], laidTests := true, laidLooks := .later }
def PathCardSaid : Prop := Claim7.holds Tryz.pinned (.plain (OpenSpec.ofChange pathSpec)) pathCard

/-- THE SECOND FORM's CARD OF 'schemeskeep.Refuses'. -/
def refusesUptoCard : Claim7 := { stood := { row := refusesUptoRow, standIns := [], harness := (true, "aa3800b1c3bf1b7b16730530079b90402e8950117fd9c4a7c5a2c1dd89e87b51"), looks := true }, kinds := [], alts := [], laidByText := true, laidKinds := [.data, .data, .data, .handle, .sentinel, .sentinel, .sentinel, .sentinel, .sentinel, .sentinel, .sentinel, .sentinel], laidTests := true, laidLooks := .later }
def RefusesUptoCardSaid : Prop := Claim7.holds Tryz.pinned (.plain (OpenSpec.upto refusesSpec)) refusesUptoCard

/-- THE SECOND FORM's CARD OF 'schemeskeep.Renamed'. -/
def renamedUptoCard : Claim7 := { stood := { row := renamedUptoRow, standIns := [], harness := (true, "aa3800b1c3bf1b7b16730530079b90402e8950117fd9c4a7c5a2c1dd89e87b51"), looks := true }, kinds := [], alts := [], laidByText := true, laidKinds := [.data, .data, .data, .handle, .sentinel, .sentinel, .sentinel, .sentinel, .sentinel, .sentinel, .sentinel, .sentinel], laidTests := true, laidLooks := .later }
def RenamedUptoCardSaid : Prop := Claim7.holds Tryz.pinned (.plain (OpenSpec.upto renamedSpec)) renamedUptoCard

/-- THE SECOND FORM's CARD OF 'schemeslaw.All'. -/
def allUptoCard : Claim7 := { stood := { row := allUptoRow, standIns := [], harness := (true, "aa3800b1c3bf1b7b16730530079b90402e8950117fd9c4a7c5a2c1dd89e87b51"), looks := true }, kinds := [], alts := [], laidByText := true, laidKinds := [.data, .data, .data, .handle, .sentinel, .sentinel, .sentinel, .sentinel, .sentinel, .sentinel, .sentinel, .sentinel], laidTests := true, laidLooks := .later }
def AllUptoCardSaid : Prop := Claim7.holds Tryz.pinned (.plain (OpenSpec.upto allSpec)) allUptoCard

/-- THE SECOND FORM's CARD OF 'schemeslaw.Plain'. -/
def plainUptoCard : Claim7 := { stood := { row := plainUptoRow, standIns := [], harness := (true, "aa3800b1c3bf1b7b16730530079b90402e8950117fd9c4a7c5a2c1dd89e87b51"), looks := true }, kinds := [], alts := [], laidByText := true, laidKinds := [.data, .data, .data, .handle, .sentinel, .sentinel, .sentinel, .sentinel, .sentinel, .sentinel, .sentinel, .sentinel], laidTests := true, laidLooks := .later }
def PlainUptoCardSaid : Prop := Claim7.holds Tryz.pinned (.plain (OpenSpec.upto plainSpec)) plainUptoCard

/-- THE SECOND FORM's CARD OF 'schemeslaw.Infers'. -/
def infersUptoCard : Claim7 := { stood := { row := infersUptoRow, standIns := [], harness := (true, "aa3800b1c3bf1b7b16730530079b90402e8950117fd9c4a7c5a2c1dd89e87b51"), looks := true }, kinds := [], alts := [], laidByText := true, laidKinds := [.data, .data, .data, .handle, .sentinel, .sentinel, .sentinel, .sentinel, .sentinel, .sentinel, .sentinel, .sentinel], laidTests := true, laidLooks := .later }
def InfersUptoCardSaid : Prop := Claim7.holds Tryz.pinned (.plain (OpenSpec.upto infersSpec)) infersUptoCard

/-- THE SECOND FORM's CARD OF 'schemeslaw.Steady'. -/
def steadyUptoCard : Claim7 := { stood := { row := steadyUptoRow, standIns := [], harness := (true, "aa3800b1c3bf1b7b16730530079b90402e8950117fd9c4a7c5a2c1dd89e87b51"), looks := true }, kinds := [], alts := [], laidByText := true, laidKinds := [.data, .data, .data, .handle, .sentinel, .sentinel, .sentinel, .sentinel, .sentinel, .sentinel, .sentinel, .sentinel], laidTests := true, laidLooks := .later }
def SteadyUptoCardSaid : Prop := Claim7.holds Tryz.pinned (.plain (OpenSpec.upto steadySpec)) steadyUptoCard

/-- THE SECOND FORM's CARD OF 'schemeskeep.Times'. -/
def timesUptoCard : Claim7 := { stood := { row := timesUptoRow, standIns := [], harness := (true, "aa3800b1c3bf1b7b16730530079b90402e8950117fd9c4a7c5a2c1dd89e87b51"), looks := true }, kinds := [], alts := [], laidByText := true, laidKinds := [.data, .data, .data, .handle, .sentinel, .sentinel, .sentinel, .sentinel, .sentinel, .sentinel, .sentinel, .sentinel], laidTests := true, laidLooks := .later }
def TimesUptoCardSaid : Prop := Claim7.holds Tryz.pinned (.plain (OpenSpec.upto timesSpec)) timesUptoCard

/-- THE SECOND FORM's CARD OF 'schemeskeep.Path'. -/
def pathUptoCard : Claim7 := { stood := { row := pathUptoRow, standIns := [], harness := (true, "aa3800b1c3bf1b7b16730530079b90402e8950117fd9c4a7c5a2c1dd89e87b51"), looks := true }, kinds := [], alts := [], laidByText := true, laidKinds := [.data, .data, .data, .handle, .sentinel, .sentinel, .sentinel, .sentinel, .sentinel, .sentinel, .sentinel, .sentinel], laidTests := true, laidLooks := .later }
def PathUptoCardSaid : Prop := Claim7.holds Tryz.pinned (.plain (OpenSpec.upto pathSpec)) pathUptoCard
end Rows
end Go.Proofs.YtpbplpnifjbkoaaGreatDoor
