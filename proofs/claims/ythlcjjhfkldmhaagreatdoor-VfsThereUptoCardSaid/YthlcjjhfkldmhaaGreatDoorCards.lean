/-
  DERIVED. GIVEN WITH THE SEED: THE CARDS: each row of YthlcjjhfkldmhaaGreatDoorRows.lean that lists a variable, with what it lists TIED to the program's text (the seventh form; the later family's looks); each row that meets fmt, with fmt's text TOLD by the authors' own Lean function (tested against real Go, not proved from fmt's source: count such statements apart). THE CARD IS WHAT COUNTS. Prove the row's statement (the work); the ties are given (YthlcjjhfkldmhaaGreatDoorTie.lean); close each card by the builder's one call (the guide's Derived/Test/ToyasCard.lean, 'card_holds'). Laid BY PROGRAM, IN A SANDBOX (cutbox-door.mjs). By AI agents, Wed Nov 11 2026. No macro, syntax, notation, axiom, sorry.
-/
import Derived.Test.YthlcjjhfkldmhaaGreatDoorRows
import GoSem.ClaimSeven
namespace Go.Proofs.YthlcjjhfkldmhaaGreatDoor
namespace Rows

/-- THE TIED CARD OF 'paddocklaw04.VfsCalls'. -/
def vfsCallsCard : Claim7 := { stood := { row := vfsCallsRow, standIns := [], harness := (true, "1bc2f2501c043824ea06c9b3a4dfa2ff99bd501990fad9134cebe36a1af58e27"), looks := false }, kinds := [], alts := [], laidByText := true, laidKinds := [.data, .pinned], laidTests := true, laidLooks := .later }
def VfsCallsCardSaid : Prop := Claim7.holds Tryz.pinned (.plain (OpenSpec.ofChange vfsCallsSpec)) vfsCallsCard

/-- THE TIED CARD OF 'paddocklaw04.VfsThere'. -/
def vfsThereCard : Claim7 := { stood := { row := vfsThereRow, standIns := [], harness := (true, "1bc2f2501c043824ea06c9b3a4dfa2ff99bd501990fad9134cebe36a1af58e27"), looks := false }, kinds := [], alts := [], laidByText := true, laidKinds := [.data, .pinned], laidTests := true, laidLooks := .later }
def VfsThereCardSaid : Prop := Claim7.holds Tryz.pinned (.plain (OpenSpec.ofChange vfsThereSpec)) vfsThereCard

/-- THE SECOND FORM's CARD OF 'paddocklaw04.VfsCalls'. -/
def vfsCallsUptoCard : Claim7 := { stood := { row := vfsCallsUptoRow, standIns := [], harness := (true, "1bc2f2501c043824ea06c9b3a4dfa2ff99bd501990fad9134cebe36a1af58e27"), looks := false }, kinds := [], alts := [], laidByText := true, laidKinds := [.data, .pinned], laidTests := true, laidLooks := .later }
def VfsCallsUptoCardSaid : Prop := Claim7.holds Tryz.pinned (.plain (OpenSpec.upto vfsCallsSpec)) vfsCallsUptoCard

/-- THE SECOND FORM's CARD OF 'paddocklaw04.VfsThere'. -/
def vfsThereUptoCard : Claim7 := { stood := { row := vfsThereUptoRow, standIns := [], harness := (true, "1bc2f2501c043824ea06c9b3a4dfa2ff99bd501990fad9134cebe36a1af58e27"), looks := false }, kinds := [], alts := [], laidByText := true, laidKinds := [.data, .pinned], laidTests := true, laidLooks := .later }
def VfsThereUptoCardSaid : Prop := Claim7.holds Tryz.pinned (.plain (OpenSpec.upto vfsThereSpec)) vfsThereUptoCard
end Rows
end Go.Proofs.YthlcjjhfkldmhaaGreatDoor
