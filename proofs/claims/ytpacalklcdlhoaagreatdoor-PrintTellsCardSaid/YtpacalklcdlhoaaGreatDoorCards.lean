/-
  DERIVED. GIVEN WITH THE SEED: THE CARDS: each row of YtpacalklcdlhoaaGreatDoorRows.lean that lists a variable, with what it lists TIED to the program's text (the seventh form; the later family's looks); each row that meets fmt, with fmt's text TOLD by the authors' own Lean function (tested against real Go, not proved from fmt's source: count such statements apart). THE CARD IS WHAT COUNTS. Prove the row's statement (the work); the ties are given (YtpacalklcdlhoaaGreatDoorTie.lean); close each card by the builder's one call (the guide's Derived/Test/ToyasCard.lean, 'card_holds'). Laid BY PROGRAM, IN A SANDBOX (cutbox-door.mjs). By AI agents, Wed Nov 11 2026. No macro, syntax, notation, axiom, sorry.
-/
import Derived.Test.YtpacalklcdlhoaaGreatDoorRows
import GoSem.ClaimSeven
namespace Go.Proofs.YtpacalklcdlhoaaGreatDoor
namespace Rows

/-- THE TIED CARD OF 'cornbinlaw2.OwnerTells'. -/
def ownerTellsCard : Claim7 := { stood := { row := ownerTellsRow, standIns := [], harness := (true, "e459f8400703bd8bf267343d703f368a8c684f0d2644f8ede5dcc1ee9c1b0682"), looks := true }, kinds := [], alts := [], laidByText := true, laidKinds := [.data, .data, .data, .handle, .sentinel, .sentinel, .sentinel, .sentinel, .sentinel, .sentinel, .sentinel, .sentinel, .sentinel, .sentinel, .sentinel, .sentinel], laidTests := true, laidLooks := .later }
def OwnerTellsCardSaid : Prop := Claim7.holds Tryz.pinned (.plain (OpenSpec.ofChange ownerTellsSpec)) ownerTellsCard

/-- THE TIED CARD OF 'cornbinlaw1.PrintTells'. -/
def printTellsCard : Claim7 := { stood := { row := printTellsRow, standIns := [], harness := (true, "e459f8400703bd8bf267343d703f368a8c684f0d2644f8ede5dcc1ee9c1b0682"), looks := true }, kinds := [], alts := [], laidByText := true, laidKinds := [.data, .data, .data, .handle, .sentinel, .sentinel, .sentinel, .sentinel, .sentinel, .sentinel, .sentinel, .sentinel, .sentinel, .sentinel, .sentinel, .sentinel, .sentinel, .sentinel], laidTests := true, laidLooks := .later }
def PrintTellsCardSaid : Prop := Claim7.holds Tryz.pinned (.plain (OpenSpec.ofChange printTellsSpec)) printTellsCard

/-- THE SECOND FORM's CARD OF 'cornbinlaw2.OwnerTells'. -/
def ownerTellsUptoCard : Claim7 := { stood := { row := ownerTellsUptoRow, standIns := [], harness := (true, "e459f8400703bd8bf267343d703f368a8c684f0d2644f8ede5dcc1ee9c1b0682"), looks := true }, kinds := [], alts := [], laidByText := true, laidKinds := [.data, .data, .data, .handle, .sentinel, .sentinel, .sentinel, .sentinel, .sentinel, .sentinel, .sentinel, .sentinel, .sentinel, .sentinel, .sentinel, .sentinel], laidTests := true, laidLooks := .later }
def OwnerTellsUptoCardSaid : Prop := Claim7.holds Tryz.pinned (.plain (OpenSpec.upto ownerTellsSpec)) ownerTellsUptoCard

/-- THE SECOND FORM's CARD OF 'cornbinlaw1.PrintTells'. -/
def printTellsUptoCard : Claim7 := { stood := { row := printTellsUptoRow, standIns := [], harness := (true, "e459f8400703bd8bf267343d703f368a8c684f0d2644f8ede5dcc1ee9c1b0682"), looks := true }, kinds := [], alts := [], laidByText := true, laidKinds := [.data, .data, .data, .handle, .sentinel, .sentinel, .sentinel, .sentinel, .sentinel, .sentinel, .sentinel, .sentinel, .sentinel, .sentinel, .sentinel, .sentinel, .sentinel, .sentinel], laidTests := true, laidLooks := .later }
def PrintTellsUptoCardSaid : Prop := Claim7.holds Tryz.pinned (.plain (OpenSpec.upto printTellsSpec)) printTellsUptoCard
end Rows
end Go.Proofs.YtpacalklcdlhoaaGreatDoor
