/-
  DERIVED. GIVEN WITH THE SEED: THE CARDS: each row of YthddgclmnbaloaaDoorRows.lean that lists a variable, with what it lists TIED to the program's text (the seventh form; the later family's looks); each row that meets fmt, with fmt's text TOLD by the authors' own Lean function (tested against real Go, not proved from fmt's source: count such statements apart). THE CARD IS WHAT COUNTS. Prove the row's statement (the work); the ties are given (YthddgclmnbaloaaDoorTie.lean); close each card by the builder's one call (the guide's Derived/Test/ToyasCard.lean, 'card_holds'). Laid BY PROGRAM, IN A SANDBOX (cutbox-door.mjs). By AI agents, Wed Nov 11 2026. No macro, syntax, notation, axiom, sorry.
-/
import Derived.Test.YthddgclmnbaloaaDoorRows
import GoSem.ClaimSeven
namespace Go.Proofs.YthddgclmnbaloaaDoor
namespace Rows

/-- THE TIED CARD OF 'cornbinlaw2.NodeRecipes'. -/
def nodeRecipesCard : Claim7 := { stood := { row := nodeRecipesRow, standIns := [], harness := (true, "8a054ebd7142242828e8bbcd953eba86de29fb3a3a74c759f5851ec6d695c2ff"), looks := true }, kinds := [], alts := [], laidByText := true, laidKinds := [.data, .sentinel, .sentinel, .sentinel, .sentinel, .sentinel, .sentinel, .sentinel, .sentinel, .pinned], laidTests := true, laidLooks := .later }
def NodeRecipesCardSaid : Prop := Claim7.holds Tryd.pinned (.plain (OpenSpec.ofChange nodeRecipesSpec)) nodeRecipesCard

/-- THE TIED CARD OF 'cornbinlaw1.BinActs'. -/
def binActsCard : Claim7 := { stood := { row := binActsRow, standIns := [], harness := (true, "8a054ebd7142242828e8bbcd953eba86de29fb3a3a74c759f5851ec6d695c2ff"), looks := true }, kinds := [], alts := [], laidByText := true, laidKinds := [.handle, .sentinel, .sentinel, .sentinel, .sentinel, .sentinel, .sentinel, .sentinel, .sentinel, .sentinel, .sentinel, .sentinel, .sentinel], laidTests := true, laidLooks := .later }
def BinActsCardSaid : Prop := Claim7.holds Tryd.pinned (.plain (OpenSpec.ofChange binActsSpec)) binActsCard

/-- THE SECOND FORM's CARD OF 'cornbinlaw2.NodeRecipes'. -/
def nodeRecipesUptoCard : Claim7 := { stood := { row := nodeRecipesUptoRow, standIns := [], harness := (true, "8a054ebd7142242828e8bbcd953eba86de29fb3a3a74c759f5851ec6d695c2ff"), looks := true }, kinds := [], alts := [], laidByText := true, laidKinds := [.data, .sentinel, .sentinel, .sentinel, .sentinel, .sentinel, .sentinel, .sentinel, .sentinel, .pinned], laidTests := true, laidLooks := .later }
def NodeRecipesUptoCardSaid : Prop := Claim7.holds Tryd.pinned (.plain (OpenSpec.upto nodeRecipesSpec)) nodeRecipesUptoCard

/-- THE SECOND FORM's CARD OF 'cornbinlaw1.BinActs'. -/
def binActsUptoCard : Claim7 := { stood := { row := binActsUptoRow, standIns := [], harness := (true, "8a054ebd7142242828e8bbcd953eba86de29fb3a3a74c759f5851ec6d695c2ff"), looks := true }, kinds := [], alts := [], laidByText := true, laidKinds := [.handle, .sentinel, .sentinel, .sentinel, .sentinel, .sentinel, .sentinel, .sentinel, .sentinel, .sentinel, .sentinel, .sentinel, .sentinel], laidTests := true, laidLooks := .later }
def BinActsUptoCardSaid : Prop := Claim7.holds Tryd.pinned (.plain (OpenSpec.upto binActsSpec)) binActsUptoCard
end Rows
end Go.Proofs.YthddgclmnbaloaaDoor
