/-
  DERIVED. GIVEN WITH THE SEED: THE CARDS: each row of YtbokckjlgjnnjaaGreatDoorRows.lean that lists a variable, with what it lists TIED to the program's text (the seventh form; the later family's looks); each row that meets fmt, with fmt's text TOLD by the authors' own Lean function (tested against real Go, not proved from fmt's source: count such statements apart). THE CARD IS WHAT COUNTS. Prove the row's statement (the work); the ties are given (YtbokckjlgjnnjaaGreatDoorTie.lean); close each card by the builder's one call (the guide's Derived/Test/ToyasCard.lean, 'card_holds'). Laid BY PROGRAM, IN A SANDBOX (cutbox-door.mjs). By AI agents, Wed Nov 11 2026. No macro, syntax, notation, axiom, sorry.
-/
import Derived.Test.YtbokckjlgjnnjaaGreatDoorRows
import GoSem.ClaimSeven
namespace Go.Proofs.YtbokckjlgjnnjaaGreatDoor
namespace Rows

/-- THE TIED CARD OF 'cornbinlaw3.TrailKeeps'. -/
def trailKeepsCard : Claim7 := { stood := { row := trailKeepsRow, standIns := [], harness := (true, "0451512fca6c7b84f406f8f868390fd26204abe2e1bed0ad87a8210c00bfc589"), looks := true }, kinds := [], alts := [], laidByText := true, laidKinds := [.data, .handle, .sentinel, .sentinel, .sentinel, .sentinel, .sentinel, .sentinel, .sentinel, .sentinel, .sentinel, .sentinel, .sentinel, .sentinel, .pinned], laidTests := true, laidLooks := .later }
def TrailKeepsCardSaid : Prop := Claim7.holds Tryz.pinned (.plain (OpenSpec.ofChange trailKeepsSpec)) trailKeepsCard

/-- THE TIED CARD OF 'cornbinlaw3.TrailTells'. -/
def trailTellsCard : Claim7 := { stood := { row := trailTellsRow, standIns := [], harness := (true, "0451512fca6c7b84f406f8f868390fd26204abe2e1bed0ad87a8210c00bfc589"), looks := true }, kinds := [], alts := [], laidByText := true, laidKinds := [.data, .handle, .sentinel, .sentinel, .sentinel, .sentinel, .sentinel, .sentinel, .sentinel, .sentinel, .sentinel, .sentinel, .sentinel, .sentinel, .pinned], laidTests := true, laidLooks := .later }
def TrailTellsCardSaid : Prop := Claim7.holds Tryz.pinned (.plain (OpenSpec.ofChange trailTellsSpec)) trailTellsCard

/-- THE TIED CARD OF 'cornbinlaw1.RecipeTells'. -/
def recipeTellsCard : Claim7 := { stood := { row := recipeTellsRow, standIns := [], harness := (true, "0451512fca6c7b84f406f8f868390fd26204abe2e1bed0ad87a8210c00bfc589"), looks := true }, kinds := [], alts := [], laidByText := true, laidKinds := [.data, .data, .data, .data, .handle, .sentinel, .sentinel, .sentinel, .sentinel, .sentinel, .sentinel, .sentinel, .sentinel, .sentinel, .sentinel, .sentinel, .sentinel, .sentinel, .sentinel, .pinned], laidTests := true, laidLooks := .later }
def RecipeTellsCardSaid : Prop := Claim7.holds Tryz.pinned (.plain (OpenSpec.ofChange recipeTellsSpec)) recipeTellsCard

/-- THE TIED CARD OF 'cornbinlaw1.RecipeBack'. -/
def recipeBackCard : Claim7 := { stood := { row := recipeBackRow, standIns := [], harness := (true, "0451512fca6c7b84f406f8f868390fd26204abe2e1bed0ad87a8210c00bfc589"), looks := true }, kinds := [], alts := [], laidByText := true, laidKinds := [.data, .data, .data, .data, .handle, .sentinel, .sentinel, .sentinel, .sentinel, .sentinel, .sentinel, .sentinel, .sentinel, .sentinel, .sentinel, .sentinel, .sentinel, .sentinel, .sentinel, .pinned], laidTests := true, laidLooks := .later }
def RecipeBackCardSaid : Prop := Claim7.holds Tryz.pinned (.plain (OpenSpec.ofChange recipeBackSpec)) recipeBackCard

/-- THE SECOND FORM's CARD OF 'cornbinlaw3.TrailKeeps'. -/
def trailKeepsUptoCard : Claim7 := { stood := { row := trailKeepsUptoRow, standIns := [], harness := (true, "0451512fca6c7b84f406f8f868390fd26204abe2e1bed0ad87a8210c00bfc589"), looks := true }, kinds := [], alts := [], laidByText := true, laidKinds := [.data, .handle, .sentinel, .sentinel, .sentinel, .sentinel, .sentinel, .sentinel, .sentinel, .sentinel, .sentinel, .sentinel, .sentinel, .sentinel, .pinned], laidTests := true, laidLooks := .later }
def TrailKeepsUptoCardSaid : Prop := Claim7.holds Tryz.pinned (.plain (OpenSpec.upto trailKeepsSpec)) trailKeepsUptoCard

/-- THE SECOND FORM's CARD OF 'cornbinlaw3.TrailTells'. -/
def trailTellsUptoCard : Claim7 := { stood := { row := trailTellsUptoRow, standIns := [], harness := (true, "0451512fca6c7b84f406f8f868390fd26204abe2e1bed0ad87a8210c00bfc589"), looks := true }, kinds := [], alts := [], laidByText := true, laidKinds := [.data, .handle, .sentinel, .sentinel, .sentinel, .sentinel, .sentinel, .sentinel, .sentinel, .sentinel, .sentinel, .sentinel, .sentinel, .sentinel, .pinned], laidTests := true, laidLooks := .later }
def TrailTellsUptoCardSaid : Prop := Claim7.holds Tryz.pinned (.plain (OpenSpec.upto trailTellsSpec)) trailTellsUptoCard

/-- THE SECOND FORM's CARD OF 'cornbinlaw1.RecipeTells'. -/
def recipeTellsUptoCard : Claim7 := { stood := { row := recipeTellsUptoRow, standIns := [], harness := (true, "0451512fca6c7b84f406f8f868390fd26204abe2e1bed0ad87a8210c00bfc589"), looks := true }, kinds := [], alts := [], laidByText := true, laidKinds := [.data, .data, .data, .data, .handle, .sentinel, .sentinel, .sentinel, .sentinel, .sentinel, .sentinel, .sentinel, .sentinel, .sentinel, .sentinel, .sentinel, .sentinel, .sentinel, .sentinel, .pinned], laidTests := true, laidLooks := .later }
def RecipeTellsUptoCardSaid : Prop := Claim7.holds Tryz.pinned (.plain (OpenSpec.upto recipeTellsSpec)) recipeTellsUptoCard

/-- THE SECOND FORM's CARD OF 'cornbinlaw1.RecipeBack'. -/
def recipeBackUptoCard : Claim7 := { stood := { row := recipeBackUptoRow, standIns := [], harness := (true, "0451512fca6c7b84f406f8f868390fd26204abe2e1bed0ad87a8210c00bfc589"), looks := true }, kinds := [], alts := [], laidByText := true, laidKinds := [.data, .data, .data, .data, .handle, .sentinel, .sentinel, .sentinel, .sentinel, .sentinel, .sentinel, .sentinel, .sentinel, .sentinel, .sentinel, .sentinel, .sentinel, .sentinel, .sentinel, .pinned], laidTests := true, laidLooks := .later }
def RecipeBackUptoCardSaid : Prop := Claim7.holds Tryz.pinned (.plain (OpenSpec.upto recipeBackSpec)) recipeBackUptoCard
end Rows
end Go.Proofs.YtbokckjlgjnnjaaGreatDoor
