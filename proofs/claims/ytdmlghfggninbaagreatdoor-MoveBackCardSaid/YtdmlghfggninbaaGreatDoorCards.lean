/-
  DERIVED. GIVEN WITH THE SEED: THE CARDS: each row of YtdmlghfggninbaaGreatDoorRows.lean that lists a variable, with what it lists TIED to the program's text (the seventh form; the later family's looks); each row that meets fmt, with fmt's text TOLD by the authors' own Lean function (tested against real Go, not proved from fmt's source: count such statements apart). THE CARD IS WHAT COUNTS. Prove the row's statement (the work); the ties are given (YtdmlghfggninbaaGreatDoorTie.lean); close each card by the builder's one call (the guide's Derived/Test/ToyasCard.lean, 'card_holds'). Laid BY PROGRAM, IN A SANDBOX (cutbox-door.mjs). By AI agents, Wed Nov 11 2026. No macro, syntax, notation, axiom, sorry.
-/
import Derived.Test.YtdmlghfggninbaaGreatDoorRows
import GoSem.ClaimSeven
namespace Go.Proofs.YtdmlghfggninbaaGreatDoor
namespace Rows

/-- THE TIED CARD OF 'cornbinlaw2.NodeActs'. -/
def nodeActsCard : Claim7 := { stood := { row := nodeActsRow, standIns := [], harness := (true, "5338c71606fb4e331b9dd02b315ec065dda3c78913257618558672ed44d62bf6"), looks := true }, kinds := [], alts := [], laidByText := true, laidKinds := [.data, .handle, .sentinel, .sentinel, .sentinel, .sentinel, .sentinel, .sentinel, .sentinel, .sentinel, .sentinel, .sentinel, .sentinel, .sentinel, .pinned], laidTests := true, laidLooks := .later }
def NodeActsCardSaid : Prop := Claim7.holds Tryz.pinned (.plain (OpenSpec.ofChange nodeActsSpec)) nodeActsCard

/-- THE TIED CARD OF 'cornbinlaw2.MoveTells'. -/
def moveTellsCard : Claim7 := { stood := { row := moveTellsRow, standIns := [], harness := (true, "5338c71606fb4e331b9dd02b315ec065dda3c78913257618558672ed44d62bf6"), looks := true }, kinds := [], alts := [], laidByText := true, laidKinds := [.data, .data, .data, .data, .handle, .sentinel, .sentinel, .sentinel, .sentinel, .sentinel, .sentinel, .sentinel, .sentinel, .sentinel, .sentinel, .sentinel, .sentinel, .sentinel, .sentinel, .pinned], laidTests := true, laidLooks := .later }
def MoveTellsCardSaid : Prop := Claim7.holds Tryz.pinned (.plain (OpenSpec.ofChange moveTellsSpec)) moveTellsCard

/-- THE TIED CARD OF 'cornbinlaw2.MoveBack'. -/
def moveBackCard : Claim7 := { stood := { row := moveBackRow, standIns := [], harness := (true, "5338c71606fb4e331b9dd02b315ec065dda3c78913257618558672ed44d62bf6"), looks := true }, kinds := [], alts := [], laidByText := true, laidKinds := [.data, .data, .data, .data, .handle, .sentinel, .sentinel, .sentinel, .sentinel, .sentinel, .sentinel, .sentinel, .sentinel, .sentinel, .sentinel, .sentinel, .sentinel, .sentinel, .sentinel, .pinned], laidTests := true, laidLooks := .later }
def MoveBackCardSaid : Prop := Claim7.holds Tryz.pinned (.plain (OpenSpec.ofChange moveBackSpec)) moveBackCard

/-- THE SECOND FORM's CARD OF 'cornbinlaw2.NodeActs'. -/
def nodeActsUptoCard : Claim7 := { stood := { row := nodeActsUptoRow, standIns := [], harness := (true, "5338c71606fb4e331b9dd02b315ec065dda3c78913257618558672ed44d62bf6"), looks := true }, kinds := [], alts := [], laidByText := true, laidKinds := [.data, .handle, .sentinel, .sentinel, .sentinel, .sentinel, .sentinel, .sentinel, .sentinel, .sentinel, .sentinel, .sentinel, .sentinel, .sentinel, .pinned], laidTests := true, laidLooks := .later }
def NodeActsUptoCardSaid : Prop := Claim7.holds Tryz.pinned (.plain (OpenSpec.upto nodeActsSpec)) nodeActsUptoCard

/-- THE SECOND FORM's CARD OF 'cornbinlaw2.MoveTells'. -/
def moveTellsUptoCard : Claim7 := { stood := { row := moveTellsUptoRow, standIns := [], harness := (true, "5338c71606fb4e331b9dd02b315ec065dda3c78913257618558672ed44d62bf6"), looks := true }, kinds := [], alts := [], laidByText := true, laidKinds := [.data, .data, .data, .data, .handle, .sentinel, .sentinel, .sentinel, .sentinel, .sentinel, .sentinel, .sentinel, .sentinel, .sentinel, .sentinel, .sentinel, .sentinel, .sentinel, .sentinel, .pinned], laidTests := true, laidLooks := .later }
def MoveTellsUptoCardSaid : Prop := Claim7.holds Tryz.pinned (.plain (OpenSpec.upto moveTellsSpec)) moveTellsUptoCard

/-- THE SECOND FORM's CARD OF 'cornbinlaw2.MoveBack'. -/
def moveBackUptoCard : Claim7 := { stood := { row := moveBackUptoRow, standIns := [], harness := (true, "5338c71606fb4e331b9dd02b315ec065dda3c78913257618558672ed44d62bf6"), looks := true }, kinds := [], alts := [], laidByText := true, laidKinds := [.data, .data, .data, .data, .handle, .sentinel, .sentinel, .sentinel, .sentinel, .sentinel, .sentinel, .sentinel, .sentinel, .sentinel, .sentinel, .sentinel, .sentinel, .sentinel, .sentinel, .pinned], laidTests := true, laidLooks := .later }
def MoveBackUptoCardSaid : Prop := Claim7.holds Tryz.pinned (.plain (OpenSpec.upto moveBackSpec)) moveBackUptoCard
end Rows
end Go.Proofs.YtdmlghfggninbaaGreatDoor
