/-
  DERIVED. GIVEN WITH THE SEED: THE CARDS: each row of YtdnhjnlhmfajnaaDoorRows.lean that lists a variable, with what it lists TIED to the program's text (the seventh form; the later family's looks); each row that meets fmt, with fmt's text TOLD by the authors' own Lean function (tested against real Go, not proved from fmt's source: count such statements apart). THE CARD IS WHAT COUNTS. Prove the row's statement (the work); the ties are given (YtdnhjnlhmfajnaaDoorTie.lean); close each card by the builder's one call (the guide's Derived/Test/ToyasCard.lean, 'card_holds'). Laid BY PROGRAM, IN A SANDBOX (cutbox-door.mjs). By AI agents, Wed Nov 11 2026. No macro, syntax, notation, axiom, sorry.
-/
import Derived.Test.YtdnhjnlhmfajnaaDoorRows
import GoSem.ClaimSeven
namespace Go.Proofs.YtdnhjnlhmfajnaaDoor
namespace Rows

/-- THE TIED CARD OF 'paddocklaw03.TreesBack'. -/
def treesBackCard : Claim7 := { stood := { row := treesBackRow, standIns := [], harness := (true, "de7ac07ed98653eee04c1c3a2e82d58dcea6598942d4970328f61ff24ba7df23"), looks := false }, kinds := [], alts := [], laidByText := true, laidKinds := [.data, .data, .pinned], laidTests := true, laidLooks := .later }
def TreesBackCardSaid : Prop := Claim7.holds Tryd.pinned (.plain (OpenSpec.ofChange treesBackSpec)) treesBackCard

/-- THE TIED CARD OF 'paddocklaw03.TreesChecks'. -/
def treesChecksCard : Claim7 := { stood := { row := treesChecksRow, standIns := [], harness := (true, "de7ac07ed98653eee04c1c3a2e82d58dcea6598942d4970328f61ff24ba7df23"), looks := false }, kinds := [], alts := [], laidByText := true, laidKinds := [.data, .data, .pinned], laidTests := true, laidLooks := .later }
def TreesChecksCardSaid : Prop := Claim7.holds Tryd.pinned (.plain (OpenSpec.ofChange treesChecksSpec)) treesChecksCard

/-- THE TIED CARD OF 'paddocklaw03.TreesTurns'. -/
def treesTurnsCard : Claim7 := { stood := { row := treesTurnsRow, standIns := [], harness := (true, "de7ac07ed98653eee04c1c3a2e82d58dcea6598942d4970328f61ff24ba7df23"), looks := false }, kinds := [], alts := [], laidByText := true, laidKinds := [.data, .data, .pinned], laidTests := true, laidLooks := .later }
def TreesTurnsCardSaid : Prop := Claim7.holds Tryd.pinned (.plain (OpenSpec.ofChange treesTurnsSpec)) treesTurnsCard

/-- THE TIED CARD OF 'paddocklaw03.TreesPuts'. -/
def treesPutsCard : Claim7 := { stood := { row := treesPutsRow, standIns := [], harness := (true, "de7ac07ed98653eee04c1c3a2e82d58dcea6598942d4970328f61ff24ba7df23"), looks := false }, kinds := [], alts := [], laidByText := true, laidKinds := [.data, .data, .pinned], laidTests := true, laidLooks := .later }
def TreesPutsCardSaid : Prop := Claim7.holds Tryd.pinned (.plain (OpenSpec.ofChange treesPutsSpec)) treesPutsCard

/-- THE SECOND FORM's CARD OF 'paddocklaw03.TreesBack'. -/
def treesBackUptoCard : Claim7 := { stood := { row := treesBackUptoRow, standIns := [], harness := (true, "de7ac07ed98653eee04c1c3a2e82d58dcea6598942d4970328f61ff24ba7df23"), looks := false }, kinds := [], alts := [], laidByText := true, laidKinds := [.data, .data, .pinned], laidTests := true, laidLooks := .later }
def TreesBackUptoCardSaid : Prop := Claim7.holds Tryd.pinned (.plain (OpenSpec.upto treesBackSpec)) treesBackUptoCard

/-- THE SECOND FORM's CARD OF 'paddocklaw03.TreesChecks'. -/
def treesChecksUptoCard : Claim7 := { stood := { row := treesChecksUptoRow, standIns := [], harness := (true, "de7ac07ed98653eee04c1c3a2e82d58dcea6598942d4970328f61ff24ba7df23"), looks := false }, kinds := [], alts := [], laidByText := true, laidKinds := [.data, .data, .pinned], laidTests := true, laidLooks := .later }
def TreesChecksUptoCardSaid : Prop := Claim7.holds Tryd.pinned (.plain (OpenSpec.upto treesChecksSpec)) treesChecksUptoCard

/-- THE SECOND FORM's CARD OF 'paddocklaw03.TreesTurns'. -/
def treesTurnsUptoCard : Claim7 := { stood := { row := treesTurnsUptoRow, standIns := [], harness := (true, "de7ac07ed98653eee04c1c3a2e82d58dcea6598942d4970328f61ff24ba7df23"), looks := false }, kinds := [], alts := [], laidByText := true, laidKinds := [.data, .data, .pinned], laidTests := true, laidLooks := .later }
def TreesTurnsUptoCardSaid : Prop := Claim7.holds Tryd.pinned (.plain (OpenSpec.upto treesTurnsSpec)) treesTurnsUptoCard

/-- THE SECOND FORM's CARD OF 'paddocklaw03.TreesPuts'. -/
def treesPutsUptoCard : Claim7 := { stood := { row := treesPutsUptoRow, standIns := [], harness := (true, "de7ac07ed98653eee04c1c3a2e82d58dcea6598942d4970328f61ff24ba7df23"), looks := false }, kinds := [], alts := [], laidByText := true, laidKinds := [.data, .data, .pinned], laidTests := true, laidLooks := .later }
def TreesPutsUptoCardSaid : Prop := Claim7.holds Tryd.pinned (.plain (OpenSpec.upto treesPutsSpec)) treesPutsUptoCard
end Rows
end Go.Proofs.YtdnhjnlhmfajnaaDoor
