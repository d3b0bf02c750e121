/-
  DERIVED. GIVEN WITH THE SEED: THE CARDS: each row of YtpanoplcamdnkaaGreatDoorRows.lean that lists a variable, with what it lists TIED to the program's text (the seventh form; the later family's looks); each row that meets fmt, with fmt's text TOLD by the authors' own Lean function (tested against real Go, not proved from fmt's source: count such statements apart). THE CARD IS WHAT COUNTS. Prove the row's statement (the work); the ties are given (YtpanoplcamdnkaaGreatDoorTie.lean); close each card by the builder's one call (the guide's Derived/Test/ToyasCard.lean, 'card_holds'). Laid BY PROGRAM, IN A SANDBOX (cutbox-door.mjs). By AI agents, Wed Nov 11 2026. No macro, syntax, notation, axiom, sorry.
-/
import Derived.Test.YtpanoplcamdnkaaGreatDoorRows
import GoSem.ClaimSeven
namespace Go.Proofs.YtpanoplcamdnkaaGreatDoor
namespace Rows

/-- THE TIED CARD OF 'cornbinlaw2.NodeKeeps'. -/
def nodeKeepsCard : Claim7 := { stood := { row := nodeKeepsRow, standIns := [], harness := (true, "85392ef69ba9a3586ae7a72199d5a9c27390e81895f87ce511411a0825c1cb58"), looks := true }, kinds := [], alts := [], laidByText := true, laidKinds := [.data, .sentinel, .sentinel, .sentinel, .sentinel, .sentinel, .sentinel, .sentinel, .sentinel, .sentinel, .pinned], laidTests := true, laidLooks := .later }
def NodeKeepsCardSaid : Prop := Claim7.holds Tryz.pinned (.plain (OpenSpec.ofChange nodeKeepsSpec)) nodeKeepsCard

/-- THE TIED CARD OF 'cornbinlaw1.BinUses'. -/
def binUsesCard : Claim7 := { stood := { row := binUsesRow, standIns := [], harness := (true, "85392ef69ba9a3586ae7a72199d5a9c27390e81895f87ce511411a0825c1cb58"), looks := true }, kinds := [], alts := [], laidByText := true, laidKinds := [.data, .data, .data, .sentinel, .sentinel, .sentinel, .sentinel, .sentinel, .sentinel, .sentinel, .sentinel, .sentinel, .sentinel], laidTests := true, laidLooks := .later }
def BinUsesCardSaid : Prop := Claim7.holds Tryz.pinned (.plain (OpenSpec.ofChange binUsesSpec)) binUsesCard

/-- THE TIED CARD OF 'cornbinlaw2.ScrubTells'. -/
def scrubTellsCard : Claim7 := { stood := { row := scrubTellsRow, standIns := [], harness := (true, "85392ef69ba9a3586ae7a72199d5a9c27390e81895f87ce511411a0825c1cb58"), looks := true }, kinds := [], alts := [], laidByText := true, laidKinds := [.data, .handle, .sentinel, .sentinel, .sentinel, .sentinel, .sentinel, .sentinel, .sentinel, .sentinel, .sentinel, .sentinel, .sentinel, .sentinel, .pinned], laidTests := true, laidLooks := .later }
def ScrubTellsCardSaid : Prop := Claim7.holds Tryz.pinned (.plain (OpenSpec.ofChange scrubTellsSpec)) scrubTellsCard

/-- THE TIED CARD OF 'cornbinlaw1.BinFills'. -/
def binFillsCard : Claim7 := { stood := { row := binFillsRow, standIns := [], harness := (true, "85392ef69ba9a3586ae7a72199d5a9c27390e81895f87ce511411a0825c1cb58"), looks := true }, kinds := [], alts := [], laidByText := true, laidKinds := [.data, .data, .data, .handle, .sentinel, .sentinel, .sentinel, .sentinel, .sentinel, .sentinel, .sentinel, .sentinel, .sentinel, .sentinel, .sentinel, .sentinel, .sentinel, .sentinel], laidTests := true, laidLooks := .later }
def BinFillsCardSaid : Prop := Claim7.holds Tryz.pinned (.plain (OpenSpec.ofChange binFillsSpec)) binFillsCard

/-- THE TIED CARD OF 'cornbinlaw2.ScrubRight'. -/
def scrubRightCard : Claim7 := { stood := { row := scrubRightRow, standIns := [], harness := (true, "85392ef69ba9a3586ae7a72199d5a9c27390e81895f87ce511411a0825c1cb58"), looks := true }, kinds := [], alts := [], laidByText := true, laidKinds := [.data, .handle, .sentinel, .sentinel, .sentinel, .sentinel, .sentinel, .sentinel, .sentinel, .sentinel, .sentinel, .sentinel, .sentinel, .sentinel, .pinned], laidTests := true, laidLooks := .later }
def ScrubRightCardSaid : Prop := Claim7.holds Tryz.pinned (.plain (OpenSpec.ofChange scrubRightSpec)) scrubRightCard

/-- THE TIED CARD OF 'cornbinlaw2.NodeActs'. -/
def nodeActsCard : Claim7 := { stood := { row := nodeActsRow, standIns := [], harness := (true, "85392ef69ba9a3586ae7a72199d5a9c27390e81895f87ce511411a0825c1cb58"), looks := true }, kinds := [], alts := [], laidByText := true, laidKinds := [.data, .handle, .sentinel, .sentinel, .sentinel, .sentinel, .sentinel, .sentinel, .sentinel, .sentinel, .sentinel, .sentinel, .sentinel, .sentinel, .pinned], laidTests := true, laidLooks := .later }
def NodeActsCardSaid : Prop := Claim7.holds Tryz.pinned (.plain (OpenSpec.ofChange nodeActsSpec)) nodeActsCard

/-- THE SECOND FORM's CARD OF 'cornbinlaw2.NodeKeeps'. -/
def nodeKeepsUptoCard : Claim7 := { stood := { row := nodeKeepsUptoRow, standIns := [], harness := (true, "85392ef69ba9a3586ae7a72199d5a9c27390e81895f87ce511411a0825c1cb58"), looks := true }, kinds := [], alts := [], laidByText := true, laidKinds := [.data, .sentinel, .sentinel, .sentinel, .sentinel, .sentinel, .sentinel, .sentinel, .sentinel, .sentinel, .pinned], laidTests := true, laidLooks := .later }
def NodeKeepsUptoCardSaid : Prop := Claim7.holds Tryz.pinned (.plain (OpenSpec.upto nodeKeepsSpec)) nodeKeepsUptoCard

/-- THE SECOND FORM's CARD OF 'cornbinlaw1.BinUses'. -/
def binUsesUptoCard : Claim7 := { stood := { row := binUsesUptoRow, standIns := [], harness := (true, "85392ef69ba9a3586ae7a72199d5a9c27390e81895f87ce511411a0825c1cb58"), looks := true }, kinds := [], alts := [], laidByText := true, laidKinds := [.data, .data, .data, .sentinel, .sentinel, .sentinel, .sentinel, .sentinel, .sentinel, .sentinel, .sentinel, .sentinel, .sentinel], laidTests := true, laidLooks := .later }
def BinUsesUptoCardSaid : Prop := Claim7.holds Tryz.pinned (.plain (OpenSpec.upto binUsesSpec)) binUsesUptoCard

/-- THE SECOND FORM's CARD OF 'cornbinlaw2.ScrubTells'. -/
def scrubTellsUptoCard : Claim7 := { stood := { row := scrubTellsUptoRow, standIns := [], harness := (true, "85392ef69ba9a3586ae7a72199d5a9c27390e81895f87ce511411a0825c1cb58"), looks := true }, kinds := [], alts := [], laidByText := true, laidKinds := [.data, .handle, .sentinel, .sentinel, .sentinel, .sentinel, .sentinel, .sentinel, .sentinel, .sentinel, .sentinel, .sentinel, .sentinel, .sentinel, .pinned], laidTests := true, laidLooks := .later }
def ScrubTellsUptoCardSaid : Prop := Claim7.holds Tryz.pinned (.plain (OpenSpec.upto scrubTellsSpec)) scrubTellsUptoCard

/-- THE SECOND FORM's CARD OF 'cornbinlaw1.BinFills'. -/
def binFillsUptoCard : Claim7 := { stood := { row := binFillsUptoRow, standIns := [], harness := (true, "85392ef69ba9a3586ae7a72199d5a9c27390e81895f87ce511411a0825c1cb58"), looks := true }, kinds := [], alts := [], laidByText := true, laidKinds := [.data, .data, .data, .handle, .sentinel, .sentinel, .sentinel, .sentinel, .sentinel, .sentinel, .sentinel, .sentinel, .sentinel, .sentinel, .sentinel, .sentinel, .sentinel, .sentinel], laidTests := true, laidLooks := .later }
def BinFillsUptoCardSaid : Prop := Claim7.holds Tryz.pinned (.plain (OpenSpec.upto binFillsSpec)) binFillsUptoCard

/-- THE SECOND FORM's CARD OF 'cornbinlaw2.ScrubRight'. -/
def scrubRightUptoCard : Claim7 := { stood := { row := scrubRightUptoRow, standIns := [], harness := (true, "85392ef69ba9a3586ae7a72199d5a9c27390e81895f87ce511411a0825c1cb58"), looks := true }, kinds := [], alts := [], laidByText := true, laidKinds := [.data, .handle, .sentinel, .sentinel, .sentinel, .sentinel, .sentinel, .sentinel, .sentinel, .sentinel, .sentinel, .sentinel, .sentinel, .sentinel, .pinned], laidTests := true, laidLooks := .later }
def ScrubRightUptoCardSaid : Prop := Claim7.holds Tryz.pinned (.plain (OpenSpec.upto scrubRightSpec)) scrubRightUptoCard

/-- THE SECOND FORM's CARD OF 'cornbinlaw2.NodeActs'. -/
def nodeActsUptoCard : Claim7 := { stood := { row := nodeActsUptoRow, standIns := [], harness := (true, "85392ef69ba9a3586ae7a72199d5a9c27390e81895f87ce511411a0825c1cb58"), looks := true }, kinds := [], alts := [], laidByText := true, laidKinds := [.data, .handle, .sentinel, .sentinel, .sentinel, .sentinel, .sentinel, .sentinel, .sentinel, .sentinel, .sentinel, .sentinel, .sentinel, .sentinel, .pinned], laidTests := true, laidLooks := .later }
def NodeActsUptoCardSaid : Prop := Claim7.holds Tryz.pinned (.plain (OpenSpec.upto nodeActsSpec)) nodeActsUptoCard
end Rows
end Go.Proofs.YtpanoplcamdnkaaGreatDoor
