/-
  DERIVED. GIVEN WITH THE SEED: THE CARDS: each row of YtpacalklcdlhoaaDoorRows.lean that lists a variable, with what it lists TIED to the program's text (the seventh form; the later family's looks); each row that meets fmt, with fmt's text TOLD by the authors' own Lean function (tested against real Go, not proved from fmt's source: count such statements apart). THE CARD IS WHAT COUNTS. Prove the row's statement (the work); the ties are given (YtpacalklcdlhoaaDoorTie.lean); close each card by the builder's one call (the guide's Derived/Test/ToyasCard.lean, 'card_holds'). Laid BY PROGRAM, IN A SANDBOX (cutbox-door.mjs). By AI agents, Wed Nov 11 2026. No macro, syntax, notation, axiom, sorry.
-/
import Derived.Test.YtpacalklcdlhoaaDoorRows
import GoSem.ClaimSeven
namespace Go.Proofs.YtpacalklcdlhoaaDoor
namespace Rows

/-- THE TIED CARD OF 'cornbinlaw2.OwnerMoves'. -/
def ownerMovesCard : Claim7 := { stood := { row := ownerMovesRow, standIns := [], harness := (true, "310ffcc91e8666d09f11ad34952812612e14b55b336eb94e12c3e67ebe14cae5"), looks := true }, kinds := [], alts := [], laidByText := true, laidKinds := [.data, .data, .data, .sentinel, .sentinel, .sentinel, .sentinel, .sentinel], laidTests := true, laidLooks := .later }
def OwnerMovesCardSaid : Prop := Claim7.holds Tryd.pinned (.plain (OpenSpec.ofChange ownerMovesSpec)) ownerMovesCard

/-- THE TIED CARD OF 'cornbinlaw3.TapeCuts'. -/
def tapeCutsCard : Claim7 := { stood := { row := tapeCutsRow, standIns := [], harness := (true, "310ffcc91e8666d09f11ad34952812612e14b55b336eb94e12c3e67ebe14cae5"), looks := true }, kinds := [], alts := [], laidByText := true, laidKinds := [.data, .data, .data, .sentinel, .sentinel, .sentinel, .sentinel, .sentinel, .sentinel], laidTests := true, laidLooks := .later }
def TapeCutsCardSaid : Prop := Claim7.holds Tryd.pinned (.plain (OpenSpec.ofChange tapeCutsSpec)) tapeCutsCard

/-- THE TIED CARD OF 'cornbinlaw1.PrintParts'. -/
def printPartsCard : Claim7 := { stood := { row := printPartsRow, standIns := [], harness := (true, "310ffcc91e8666d09f11ad34952812612e14b55b336eb94e12c3e67ebe14cae5"), looks := true }, kinds := [], alts := [], laidByText := true, laidKinds := [.data, .data, .data, .sentinel, .sentinel, .sentinel], laidTests := true, laidLooks := .later }
def PrintPartsCardSaid : Prop := Claim7.holds Tryd.pinned (.plain (OpenSpec.ofChange printPartsSpec)) printPartsCard

/-- THE TIED CARD OF 'cornbinlaw3.TapeActs'. -/
def tapeActsCard : Claim7 := { stood := { row := tapeActsRow, standIns := [], harness := (true, "310ffcc91e8666d09f11ad34952812612e14b55b336eb94e12c3e67ebe14cae5"), looks := true }, kinds := [], alts := [], laidByText := true, laidKinds := [.data, .data, .data, .handle, .sentinel, .sentinel, .sentinel, .sentinel, .sentinel, .sentinel, .sentinel, .sentinel, .sentinel, .sentinel, .sentinel, .sentinel, .sentinel, .sentinel], laidTests := true, laidLooks := .later }
def TapeActsCardSaid : Prop := Claim7.holds Tryd.pinned (.plain (OpenSpec.ofChange tapeActsSpec)) tapeActsCard

/-- THE TIED CARD OF 'cornbinlaw3.OnceOnce'. -/
def onceOnceCard : Claim7 := { stood := { row := onceOnceRow, standIns := [], harness := (true, "310ffcc91e8666d09f11ad34952812612e14b55b336eb94e12c3e67ebe14cae5"), looks := true }, kinds := [], alts := [], laidByText := true, laidKinds := [.data, .handle, .sentinel, .sentinel, .sentinel, .sentinel, .sentinel, .sentinel, .sentinel, .sentinel, .sentinel, .sentinel, .sentinel, .sentinel, .pinned], laidTests := true, laidLooks := .later }
def OnceOnceCardSaid : Prop := Claim7.holds Tryd.pinned (.plain (OpenSpec.ofChange onceOnceSpec)) onceOnceCard

/-- THE TIED CARD OF 'cornbinlaw3.OnceActs'. -/
def onceActsCard : Claim7 := { stood := { row := onceActsRow, standIns := [], harness := (true, "310ffcc91e8666d09f11ad34952812612e14b55b336eb94e12c3e67ebe14cae5"), looks := true }, kinds := [], alts := [], laidByText := true, laidKinds := [.data, .handle, .sentinel, .sentinel, .sentinel, .sentinel, .sentinel, .sentinel, .sentinel, .sentinel, .sentinel, .sentinel, .sentinel, .sentinel, .pinned], laidTests := true, laidLooks := .later }
def OnceActsCardSaid : Prop := Claim7.holds Tryd.pinned (.plain (OpenSpec.ofChange onceActsSpec)) onceActsCard

/-- THE SECOND FORM's CARD OF 'cornbinlaw2.OwnerMoves'. -/
def ownerMovesUptoCard : Claim7 := { stood := { row := ownerMovesUptoRow, standIns := [], harness := (true, "310ffcc91e8666d09f11ad34952812612e14b55b336eb94e12c3e67ebe14cae5"), looks := true }, kinds := [], alts := [], laidByText := true, laidKinds := [.data, .data, .data, .sentinel, .sentinel, .sentinel, .sentinel, .sentinel], laidTests := true, laidLooks := .later }
def OwnerMovesUptoCardSaid : Prop := Claim7.holds Tryd.pinned (.plain (OpenSpec.upto ownerMovesSpec)) ownerMovesUptoCard

/-- THE SECOND FORM's CARD OF 'cornbinlaw3.TapeCuts'. -/
def tapeCutsUptoCard : Claim7 := { stood := { row := tapeCutsUptoRow, standIns := [], harness := (true, "310ffcc91e8666d09f11ad34952812612e14b55b336eb94e12c3e67ebe14cae5"), looks := true }, kinds := [], alts := [], laidByText := true, laidKinds := [.data, .data, .data, .sentinel, .sentinel, .sentinel, .sentinel, .sentinel, .sentinel], laidTests := true, laidLooks := .later }
def TapeCutsUptoCardSaid : Prop := Claim7.holds Tryd.pinned (.plain (OpenSpec.upto tapeCutsSpec)) tapeCutsUptoCard

/-- THE SECOND FORM's CARD OF 'cornbinlaw1.PrintParts'. -/
def printPartsUptoCard : Claim7 := { stood := { row := printPartsUptoRow, standIns := [], harness := (true, "310ffcc91e8666d09f11ad34952812612e14b55b336eb94e12c3e67ebe14cae5"), looks := true }, kinds := [], alts := [], laidByText := true, laidKinds := [.data, .data, .data, .sentinel, .sentinel, .sentinel], laidTests := true, laidLooks := .later }
def PrintPartsUptoCardSaid : Prop := Claim7.holds Tryd.pinned (.plain (OpenSpec.upto printPartsSpec)) printPartsUptoCard

/-- THE SECOND FORM's CARD OF 'cornbinlaw3.TapeActs'. -/
def tapeActsUptoCard : Claim7 := { stood := { row := tapeActsUptoRow, standIns := [], harness := (true, "310ffcc91e8666d09f11ad34952812612e14b55b336eb94e12c3e67ebe14cae5"), looks := true }, kinds := [], alts := [], laidByText := true, laidKinds := [.data, .data, .data, .handle, .sentinel, .sentinel, .sentinel, .sentinel, .sentinel, .sentinel, .sentinel, .sentinel, .sentinel, .sentinel, .sentinel, .sentinel, .sentinel, .sentinel], laidTests := true, laidLooks := .later }
def TapeActsUptoCardSaid : Prop := Claim7.holds Tryd.pinned (.plain (OpenSpec.upto tapeActsSpec)) tapeActsUptoCard

/-- THE SECOND FORM's CARD OF 'cornbinlaw3.OnceOnce'. -/
def onceOnceUptoCard : Claim7 := { stood := { row := onceOnceUptoRow, standIns := [], harness := (true, "310ffcc91e8666d09f11ad34952812612e14b55b336eb94e12c3e67ebe14cae5"), looks := true }, kinds := [], alts := [], laidByText := true, laidKinds := [.data, .handle, .sentinel, .sentinel, .sentinel, .sentinel, .sentinel, .sentinel, .sentinel, .sentinel, .sentinel, .sentinel, .sentinel, .sentinel, .pinned], laidTests := true, laidLooks := .later }
def OnceOnceUptoCardSaid : Prop := Claim7.holds Tryd.pinned (.plain (OpenSpec.upto onceOnceSpec)) onceOnceUptoCard

/-- THE SECOND FORM's CARD OF 'cornbinlaw3.OnceActs'. -/
def onceActsUptoCard : Claim7 := { stood := { row := onceActsUptoRow, standIns := [], harness := (true, "310ffcc91e8666d09f11ad34952812612e14b55b336eb94e12c3e67ebe14cae5"), looks := true }, kinds := [], alts := [], laidByText := true, laidKinds := [.data, .handle, .sentinel, .sentinel, .sentinel, .sentinel, .sentinel, .sentinel, .sentinel, .sentinel, .sentinel, .sentinel, .sentinel, .sentinel, .pinned], laidTests := true, laidLooks := .later }
def OnceActsUptoCardSaid : Prop := Claim7.holds Tryd.pinned (.plain (OpenSpec.upto onceActsSpec)) onceActsUptoCard
end Rows
end Go.Proofs.YtpacalklcdlhoaaDoor
