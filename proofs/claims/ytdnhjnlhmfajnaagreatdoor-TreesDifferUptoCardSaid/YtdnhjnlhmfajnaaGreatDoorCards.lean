/-
  DERIVED. GIVEN WITH THE SEED: THE CARDS: each row of YtdnhjnlhmfajnaaGreatDoorRows.lean that lists a variable, with what it lists TIED to the program's text (the seventh form; the later family's looks); each row that meets fmt, with fmt's text TOLD by the authors' own Lean function (tested against real Go, not proved from fmt's source: count such statements apart). THE CARD IS WHAT COUNTS. Prove the row's statement (the work); the ties are given (YtdnhjnlhmfajnaaGreatDoorTie.lean); close each card by the builder's one call (the guide's Derived/Test/ToyasCard.lean, 'card_holds'). Laid BY PROGRAM, IN A SANDBOX (cutbox-door.mjs). By AI agents, Wed Nov 11 2026. No macro, syntax, notation, axiom, sorry.
-/
import Derived.Test.YtdnhjnlhmfajnaaGreatDoorRows
import GoSem.ClaimSeven
namespace Go.Proofs.YtdnhjnlhmfajnaaGreatDoor
namespace Rows

/-- THE TIED CARD OF 'paddocklaw03.TreesTexts'. -/
def treesTextsCard : Claim7 := { stood := { row := treesTextsRow, standIns := [], harness := (true, "c3dbef92833964b1c2ec40040c0dba60066aaee4d2632fee058ed937ab7260c4"), looks := true }, kinds := [], alts := [], laidByText := true, laidKinds := [.data, .data, .pinned], laidTests := true, laidLooks := .later }
def TreesTextsCardSaid : Prop := Claim7.holds Tryz.pinned (.plain (OpenSpec.ofChange treesTextsSpec)) treesTextsCard

/-- THE TIED CARD OF 'paddocklaw03.TreesFinds'. -/
def treesFindsCard : Claim7 := { stood := { row := treesFindsRow, standIns := [], harness := (true, "c3dbef92833964b1c2ec40040c0dba60066aaee4d2632fee058ed937ab7260c4"), looks := true }, kinds := [], alts := [], laidByText := true, laidKinds := [.data, .data, .pinned], laidTests := true, laidLooks := .later }
def TreesFindsCardSaid : Prop := Claim7.holds Tryz.pinned (.plain (OpenSpec.ofChange treesFindsSpec)) treesFindsCard

/-- THE TIED CARD OF 'paddocklaw03.TreesFound'. -/
def treesFoundCard : Claim7 := { stood := { row := treesFoundRow, standIns := [], harness := (true, "c3dbef92833964b1c2ec40040c0dba60066aaee4d2632fee058ed937ab7260c4"), looks := true }, kinds := [], alts := [], laidByText := true, laidKinds := [.data, .data, .pinned], laidTests := true, laidLooks := .later }
def TreesFoundCardSaid : Prop := Claim7.holds Tryz.pinned (.plain (OpenSpec.ofChange treesFoundSpec)) treesFoundCard

/-- THE TIED CARD OF 'paddocklaw03.TreesOwn'. -/
def treesOwnCard : Claim7 := { stood := { row := treesOwnRow, standIns := [], harness := (true, "c3dbef92833964b1c2ec40040c0dba60066aaee4d2632fee058ed937ab7260c4"), looks := true }, kinds := [], alts := [], laidByText := true, laidKinds := [.data, .data, .pinned], laidTests := true, laidLooks := .later }
def TreesOwnCardSaid : Prop := Claim7.holds Tryz.pinned (.plain (OpenSpec.ofChange treesOwnSpec)) treesOwnCard

/-- THE TIED CARD OF 'paddocklaw03.TreesChanges'. -/
def treesChangesCard : Claim7 := { stood := { row := treesChangesRow, standIns := [], harness := (true, "c3dbef92833964b1c2ec40040c0dba60066aaee4d2632fee058ed937ab7260c4"), looks := true }, kinds := [], alts := [], laidByText := true, laidKinds := [.data, .data, .pinned], laidTests := true, laidLooks := .later }
def TreesChangesCardSaid : Prop := Claim7.holds Tryz.pinned (.plain (OpenSpec.ofChange treesChangesSpec)) treesChangesCard

/-- THE TIED CARD OF 'paddocklaw03.TreesDiffer'. -/
def treesDifferCard : Claim7 := { stood := { row := treesDifferRow, standIns := [], harness := (true, "c3dbef92833964b1c2ec40040c0dba60066aaee4d2632fee058ed937ab7260c4"), looks := true }, kinds := [], alts := [], laidByText := true, laidKinds := [.data, .data, .pinned], laidTests := true, laidLooks := .later }
def TreesDifferCardSaid : Prop := Claim7.holds Tryz.pinned (.plain (OpenSpec.ofChange treesDifferSpec)) treesDifferCard

/-- THE SECOND FORM's CARD OF 'paddocklaw03.TreesTexts'. -/
def treesTextsUptoCard : Claim7 := { stood := { row := treesTextsUptoRow, standIns := [], harness := (true, "c3dbef92833964b1c2ec40040c0dba60066aaee4d2632fee058ed937ab7260c4"), looks := true }, kinds := [], alts := [], laidByText := true, laidKinds := [.data, .data, .pinned], laidTests := true, laidLooks := .later }
def TreesTextsUptoCardSaid : Prop := Claim7.holds Tryz.pinned (.plain (OpenSpec.upto treesTextsSpec)) treesTextsUptoCard

/-- THE SECOND FORM's CARD OF 'paddocklaw03.TreesFinds'. -/
def treesFindsUptoCard : Claim7 := { stood := { row := treesFindsUptoRow, standIns := [], harness := (true, "c3dbef92833964b1c2ec40040c0dba60066aaee4d2632fee058ed937ab7260c4"), looks := true }, kinds := [], alts := [], laidByText := true, laidKinds := [.data, .data, .pinned], laidTests := true, laidLooks := .later }
def TreesFindsUptoCardSaid : Prop := Claim7.holds Tryz.pinned (.plain (OpenSpec.upto treesFindsSpec)) treesFindsUptoCard

/-- THE SECOND FORM's CARD OF 'paddocklaw03.TreesFound'. -/
def treesFoundUptoCard : Claim7 := { stood := { row := treesFoundUptoRow, standIns := [], harness := (true, "c3dbef92833964b1c2ec40040c0dba60066aaee4d2632fee058ed937ab7260c4"), looks := true }, kinds := [], alts := [], laidByText := true, laidKinds := [.data, .data, .pinned], laidTests := true, laidLooks := .later }
def TreesFoundUptoCardSaid : Prop := Claim7.holds Tryz.pinned (.plain (OpenSpec.upto treesFoundSpec)) treesFoundUptoCard

/-- THE SECOND FORM's CARD OF 'paddocklaw03.TreesOwn'. -/
def treesOwnUptoCard : Claim7 := { stood := { row := treesOwnUptoRow, standIns := [], harness := (true, "c3dbef92833964b1c2ec40040c0dba60066aaee4d2632fee058ed937ab7260c4"), looks := true }, kinds := [], alts := [], laidByText := true, laidKinds := [.data, .data, .pinned], laidTests := true, laidLooks := .later }
def TreesOwnUptoCardSaid : Prop := Claim7.holds Tryz.pinned (.plain (OpenSpec.upto treesOwnSpec)) treesOwnUptoCard

/-- THE SECOND FORM's CARD OF 'paddocklaw03.TreesChanges'. -/
def treesChangesUptoCard : Claim7 := { stood := { row := treesChangesUptoRow, standIns := [], harness := (true, "c3dbef92833964b1c2ec40040c0dba60066aaee4d2632fee058ed937ab7260c4"), looks := true }, kinds := [], alts := [], laidByText := true, laidKinds := [.data, .data, .pinned], laidTests := true, laidLooks := .later }
def TreesChangesUptoCardSaid : Prop := Claim7.holds Tryz.pinned (.plain (OpenSpec.upto treesChangesSpec)) treesChangesUptoCard

/-- THE SECOND FORM's CARD OF 'paddocklaw03.TreesDiffer'. -/
def treesDifferUptoCard : Claim7 := { stood := { row := treesDifferUptoRow, standIns := [], harness := (true, "c3dbef92833964b1c2ec40040c0dba60066aaee4d2632fee058ed937ab7260c4"), looks := true }, kinds := [], alts := [], laidByText := true, laidKinds := [.data, .data, .pinned], laidTests := true, laidLooks := .later }
def TreesDifferUptoCardSaid : Prop := Claim7.holds Tryz.pinned (.plain (OpenSpec.upto treesDifferSpec)) treesDifferUptoCard
end Rows
end Go.Proofs.YtdnhjnlhmfajnaaGreatDoor
