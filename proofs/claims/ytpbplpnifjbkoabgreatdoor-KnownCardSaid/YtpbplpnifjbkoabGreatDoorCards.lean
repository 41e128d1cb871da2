/-
  DERIVED. GIVEN WITH THE SEED: THE CARDS: each row of YtpbplpnifjbkoabGreatDoorRows.lean that lists a variable, with what it lists TIED to the program's text (the seventh form; the later family's looks); each row that meets fmt, with fmt's text TOLD by the authors' own Lean function (tested against real Go, not proved from fmt's source: count such statements apart). THE CARD IS WHAT COUNTS. Prove the row's statement (the work); the ties are given (YtpbplpnifjbkoabGreatDoorTie.lean); close each card by the builder's one call (the guide's Derived/Test/ToyasCard.lean, 'card_holds'). Laid BY PROGRAM, IN A SANDBOX (cutbox-door.mjs). By AI agents, Wed Nov 11 2026. No macro, syntax, notation, axiom, sorry.
-/
import Derived.Test.YtpbplpnifjbkoabGreatDoorRows
import GoSem.ClaimSeven
namespace Go.Proofs.YtpbplpnifjbkoabGreatDoor
namespace Rows

/-- THE TIED CARD OF 'schemeskeep.Chain'. -/
def chainCard : Claim7 := { stood := { row := chainRow, standIns := [], harness := (true, "503044b61bfe03b431384a643b19d85d6fc40d5aa1f50092b879a05ba9605dda"), looks := true }, kinds := [], alts := [], laidByText := true, laidKinds := [.data, .data, .data, .handle, .sentinel, .sentinel, .sentinel, .sentinel, .sentinel, .sentinel, .sentinel, .sentinel], laidTests := true, laidLooks := .later }
def ChainCardSaid : Prop := Claim7.holds Tryz.pinned (.plain (OpenSpec.ofChange chainSpec)) chainCard

/-- THE TIED CARD OF 'schemeskeep.Endless'. -/
def endlessCard : Claim7 := { stood := { row := endlessRow, standIns := [], harness := (true, "503044b61bfe03b431384a643b19d85d6fc40d5aa1f50092b879a05ba9605dda"), looks := true }, kinds := [], alts := [], laidByText := true, laidKinds := [.data, .data, .data, .handle, .sentinel, .sentinel, .sentinel, .sentinel, .sentinel, .sentinel, .sentinel, .sentinel], laidTests := true, laidLooks := .later }
def EndlessCardSaid : Prop := Claim7.holds Tryz.pinned (.plain (OpenSpec.ofChange endlessSpec)) endlessCard

/-- THE TIED CARD OF 'schemeslaw.Watches'. -/
def watchesCard : Claim7 := { stood := { row := watchesRow, standIns := [], harness := (true, "503044b61bfe03b431384a643b19d85d6fc40d5aa1f50092b879a05ba9605dda"), looks := true }, kinds := [], alts := [], laidByText := true, laidKinds := [.data, .data, .data, .handle, .sentinel, .sentinel, .sentinel, .sentinel, .sentinel, .sentinel, .sentinel, .sentinel], laidTests := true, laidLooks := .later }
def WatchesCardSaid : Prop := Claim7.holds Tryz.pinned (.plain (OpenSpec.ofChange watchesSpec)) watchesCard

/-- THE TIED CARD OF 'schemeskeep.Known'. -/
def knownCard : Claim7 := { stood := { row := knownRow, standIns := [], harness := (true, "503044b61bfe03b431384a643b19d85d6fc40d5aa1f50092b879a05ba9605dda"), looks := true }, kinds := [], alts := [], laidByText := true, laidKinds := [.data, .data, .data, .handle, .sentinel, .sentinel, .sentinel, .sentinel, .sentinel, .sentinel, .sentinel, .sentinel], laidTests := true, laidLooks := .later }
def KnownCardSaid : Prop := Claim7.holds Tryz.pinned (.plain (OpenSpec.ofChange knownSpec)) knownCard

/-- THE TIED CARD OF 'schemeskeep.Same'. -/
def sameCard : Claim7 := { stood := { row := sameRow, standIns := [], harness := (true, "503044b61bfe03b431384a643b19d85d6fc40d5aa1f50092b879a05ba9605dda"), looks := true }, kinds := [], alts := [], laidByText := true, laidKinds := [.data, .data, .data, .handle, .sentinel, .sentinel, .sentinel, .sentinel, .sentinel, .sentinel, .sentinel, .sentinel], laidTests := true, laidLooks := .later }
def SameCardSaid : Prop := Claim7.holds Tryz.pinned (.plain (OpenSpec.ofChange sameSpec)) sameCard

/-- THE SECOND FORM's CARD OF 'schemeskeep.Chain'. -/
def chainUptoCard : Claim7 := { stood := { row := chainUptoRow, standIns := [], harness := (true, "503044b61bfe03b431384a643b19d85d6fc40d5aa1f50092b879a05ba9605dda"), looks := true }, kinds := [], alts := [], laidByText := true, laidKinds := [.data, .data, .data, .handle, .sentinel, .sentinel, .sentinel, .sentinel, .sentinel, .sentinel, .sentinel, .sentinel], laidTests := true, laidLooks := .later }
def ChainUptoCardSaid : Prop := Claim7.holds Tryz.pinned (.plain (OpenSpec.upto chainSpec)) chainUptoCard

/-- THE SECOND FORM's CARD OF 'schemeskeep.Endless'. -/
def endlessUptoCard : Claim7 := { stood := { row := endlessUptoRow, standIns := [], harness := (true, "503044b61bfe03b431384a643b19d85d6fc40d5aa1f50092b879a05ba9605dda"), looks := true }, kinds := [], alts := [], laidByText := true, laidKinds := [.data, .data, .data, .handle, .sentinel, .sentinel, .sentinel, .sentinel, .sentinel, .sentinel, .sentinel, .sentinel], laidTests := true, laidLooks := .later }
def EndlessUptoCardSaid : Prop := Claim7.holds Tryz.pinned (.plain (OpenSpec.upto endlessSpec)) endlessUptoCard

/-- THE SECOND FORM's CARD OF 'schemeslaw.Watches'. -/
def watchesUptoCard : Claim7 := { stood := { row := watchesUptoRow, standIns := [], harness := (true, "503044b61bfe03b431384a643b19d85d6fc40d5aa1f50092b879a05ba9605dda"), looks := true }, kinds := [], alts := [], laidByText := true, laidKinds := [.data, .data, .data, .handle, .sentinel, .sentinel, .sentinel, .sentinel, .sentinel, .sentinel, .sentinel, .sentinel], laidTests := true, laidLooks := .later }
def WatchesUptoCardSaid : Prop := Claim7.holds Tryz.pinned (.plain (OpenSpec.upto watchesSpec)) watchesUptoCard

/-- THE SECOND FORM's CARD OF 'schemeskeep.Known'. -/
def knownUptoCard : Claim7 := { stood := { row := knownUptoRow, standIns := [], harness := (true, "503044b61bfe03b431384a643b19d85d6fc40d5aa1f50092b879a05ba9605dda"), looks := true }, kinds := [], alts := [], laidByText := true, laidKinds := [.data, .data, .data, .handle, .sentinel, .sentinel, .sentinel, .sentinel, .sentinel, .sentinel, .sentinel, .sentinel], laidTests := true, laidLooks := .later }
def KnownUptoCardSaid : Prop := Claim7.holds Tryz.pinned (.plain (OpenSpec.upto knownSpec)) knownUptoCard

/-- THE SECOND FORM's CARD OF 'schemeskeep.Same'. -/
def sameUptoCard : Claim7 := { stood := { row := sameUptoRow, standIns := [], harness := (true, "503044b61bfe03b431384a643b19d85d6fc40d5aa1f50092b879a05ba9605dda"), looks := true }, kinds := [], alts := [], laidByText := true, laidKinds := [.data, .data, .data, .handle, .sentinel, .sentinel, .sentinel, .sentinel, .sentinel, .sentinel, .sentinel, .sentinel], laidTests := true, laidLooks := .later }
def SameUptoCardSaid : Prop := Claim7.holds Tryz.pinned (.plain (OpenSpec.upto sameSpec)) sameUptoCard
end Rows
end Go.Proofs.YtpbplpnifjbkoabGreatDoor
