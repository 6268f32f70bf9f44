/-
  DERIVED. GIVEN WITH THE SEED: THE CARDS: each row of YthlcjjhfkldmhaaDoorRows.lean that lists a variable, with what it lists TIED to the program's text (the seventh form; the later family's looks); each row that meets fmt, with fmt's text TOLD by the authors' own Lean function (tested against real Go, not proved from fmt's source: count such statements apart). THE CARD IS WHAT COUNTS. Prove the row's statement (the work); the ties are given (YthlcjjhfkldmhaaDoorTie.lean); close each card by the builder's one call (the guide's Derived/Test/ToyasCard.lean, 'card_holds'). Laid BY PROGRAM, IN A SANDBOX (cutbox-door.mjs). By AI agents, Wed Nov 11 2026. No macro, syntax, notation, axiom, sorry.
-/
import Derived.Test.YthlcjjhfkldmhaaDoorRows
import GoSem.ClaimSeven
namespace Go.Proofs.YthlcjjhfkldmhaaDoor
namespace Rows

/-- THE TIED CARD OF 'paddocklaw04.VfsReal'. -/
def vfsRealCard : Claim7 := { stood := { row := vfsRealRow, standIns := [], harness := (true, "441949a6d360ce7945bf6e8d97a391358cf2b792b1f80b945ce500fc20d50e2c"), looks := false }, kinds := [], alts := [], laidByText := true, laidKinds := [.data, .pinned], laidTests := true, laidLooks := .later }
def VfsRealCardSaid : Prop := Claim7.holds Tryd.pinned (.plain (OpenSpec.ofChange vfsRealSpec)) vfsRealCard

/-- THE TIED CARD OF 'paddocklaw04.VfsFaults'. -/
def vfsFaultsCard : Claim7 := { stood := { row := vfsFaultsRow, standIns := [], harness := (true, "441949a6d360ce7945bf6e8d97a391358cf2b792b1f80b945ce500fc20d50e2c"), looks := false }, kinds := [], alts := [], laidByText := true, laidKinds := [.data, .pinned], laidTests := true, laidLooks := .later }
def VfsFaultsCardSaid : Prop := Claim7.holds Tryd.pinned (.plain (OpenSpec.ofChange vfsFaultsSpec)) vfsFaultsCard

/-- THE TIED CARD OF 'paddocklaw04.VfsTells'. -/
def vfsTellsCard : Claim7 := { stood := { row := vfsTellsRow, standIns := [], harness := (true, "441949a6d360ce7945bf6e8d97a391358cf2b792b1f80b945ce500fc20d50e2c"), looks := false }, kinds := [], alts := [], laidByText := true, laidKinds := [.data, .pinned], laidTests := true, laidLooks := .later }
def VfsTellsCardSaid : Prop := Claim7.holds Tryd.pinned (.plain (OpenSpec.ofChange vfsTellsSpec)) vfsTellsCard

/-- THE TIED CARD OF 'paddocklaw04.VfsReals'. -/
def vfsRealsCard : Claim7 := { stood := { row := vfsRealsRow, standIns := [], harness := (true, "441949a6d360ce7945bf6e8d97a391358cf2b792b1f80b945ce500fc20d50e2c"), looks := false }, kinds := [], alts := [], laidByText := true, laidKinds := [.data, .pinned], laidTests := true, laidLooks := .later }
def VfsRealsCardSaid : Prop := Claim7.holds Tryd.pinned (.plain (OpenSpec.ofChange vfsRealsSpec)) vfsRealsCard

/-- THE TIED CARD OF 'paddocklaw04.VfsNil'. -/
def vfsNilCard : Claim7 := { stood := { row := vfsNilRow, standIns := [], harness := (true, "441949a6d360ce7945bf6e8d97a391358cf2b792b1f80b945ce500fc20d50e2c"), looks := false }, kinds := [], alts := [], laidByText := true, laidKinds := [.data, .pinned], laidTests := true, laidLooks := .later }
def VfsNilCardSaid : Prop := Claim7.holds Tryd.pinned (.plain (OpenSpec.ofChange vfsNilSpec)) vfsNilCard

/-- THE TIED CARD OF 'paddocklaw04.VfsTexts'. -/
def vfsTextsCard : Claim7 := { stood := { row := vfsTextsRow, standIns := [], harness := (true, "441949a6d360ce7945bf6e8d97a391358cf2b792b1f80b945ce500fc20d50e2c"), looks := false }, kinds := [], alts := [], laidByText := true, laidKinds := [.data, .pinned], laidTests := true, laidLooks := .later }
def VfsTextsCardSaid : Prop := Claim7.holds Tryd.pinned (.plain (OpenSpec.ofChange vfsTextsSpec)) vfsTextsCard

/-- THE TIED CARD OF 'paddocklaw04.VfsOwn'. -/
def vfsOwnCard : Claim7 := { stood := { row := vfsOwnRow, standIns := [], harness := (true, "441949a6d360ce7945bf6e8d97a391358cf2b792b1f80b945ce500fc20d50e2c"), looks := false }, kinds := [], alts := [], laidByText := true, laidKinds := [.data, .pinned], laidTests := true, laidLooks := .later }
def VfsOwnCardSaid : Prop := Claim7.holds Tryd.pinned (.plain (OpenSpec.ofChange vfsOwnSpec)) vfsOwnCard

/-- THE SECOND FORM's CARD OF 'paddocklaw04.VfsReal'. -/
def vfsRealUptoCard : Claim7 := { stood := { row := vfsRealUptoRow, standIns := [], harness := (true, "441949a6d360ce7945bf6e8d97a391358cf2b792b1f80b945ce500fc20d50e2c"), looks := false }, kinds := [], alts := [], laidByText := true, laidKinds := [.data, .pinned], laidTests := true, laidLooks := .later }
def VfsRealUptoCardSaid : Prop := Claim7.holds Tryd.pinned (.plain (OpenSpec.upto vfsRealSpec)) vfsRealUptoCard

/-- THE SECOND FORM's CARD OF 'paddocklaw04.VfsFaults'. -/
def vfsFaultsUptoCard : Claim7 := { stood := { row := vfsFaultsUptoRow, standIns := [], harness := (true, "441949a6d360ce7945bf6e8d97a391358cf2b792b1f80b945ce500fc20d50e2c"), looks := false }, kinds := [], alts := [], laidByText := true, laidKinds := [.data, .pinned], laidTests := true, laidLooks := .later }
def VfsFaultsUptoCardSaid : Prop := Claim7.holds Tryd.pinned (.plain (OpenSpec.upto vfsFaultsSpec)) vfsFaultsUptoCard

/-- THE SECOND FORM's CARD OF 'paddocklaw04.VfsTells'. -/
def vfsTellsUptoCard : Claim7 := { stood := { row := vfsTellsUptoRow, standIns := [], harness := (true, "441949a6d360ce7945bf6e8d97a391358cf2b792b1f80b945ce500fc20d50e2c"), looks := false }, kinds := [], alts := [], laidByText := true, laidKinds := [.data, .pinned], laidTests := true, laidLooks := .later }
def VfsTellsUptoCardSaid : Prop := Claim7.holds Tryd.pinned (.plain (OpenSpec.upto vfsTellsSpec)) vfsTellsUptoCard

/-- THE SECOND FORM's CARD OF 'paddocklaw04.VfsReals'. -/
def vfsRealsUptoCard : Claim7 := { stood := { row := vfsRealsUptoRow, standIns := [], harness := (true, "441949a6d360ce7945bf6e8d97a391358cf2b792b1f80b945ce500fc20d50e2c"), looks := false }, kinds := [], alts := [], laidByText := true, laidKinds := [.data, .pinned], laidTests := true, laidLooks := .later }
def VfsRealsUptoCardSaid : Prop := Claim7.holds Tryd.pinned (.plain (OpenSpec.upto vfsRealsSpec)) vfsRealsUptoCard

/-- THE SECOND FORM's CARD OF 'paddocklaw04.VfsNil'. -/
def vfsNilUptoCard : Claim7 := { stood := { row := vfsNilUptoRow, standIns := [], harness := (true, "441949a6d360ce7945bf6e8d97a391358cf2b792b1f80b945ce500fc20d50e2c"), looks := false }, kinds := [], alts := [], laidByText := true, laidKinds := [.data, .pinned], laidTests := true, laidLooks := .later }
def VfsNilUptoCardSaid : Prop := Claim7.holds Tryd.pinned (.plain (OpenSpec.upto vfsNilSpec)) vfsNilUptoCard

/-- THE SECOND FORM's CARD OF 'paddocklaw04.VfsTexts'. -/
def vfsTextsUptoCard : Claim7 := { stood := { row := vfsTextsUptoRow, standIns := [], harness := (true, "441949a6d360ce7945bf6e8d97a391358cf2b792b1f80b945ce500fc20d50e2c"), looks := false }, kinds := [], alts := [], laidByText := true, laidKinds := [.data, .pinned], laidTests := true, laidLooks := .later }
def VfsTextsUptoCardSaid : Prop := Claim7.holds Tryd.pinned (.plain (OpenSpec.upto vfsTextsSpec)) vfsTextsUptoCard

/-- THE SECOND FORM's CARD OF 'paddocklaw04.VfsOwn'. -/
def vfsOwnUptoCard : Claim7 := { stood := { row := vfsOwnUptoRow, standIns := [], harness := (true, "441949a6d360ce7945bf6e8d97a391358cf2b792b1f80b945ce500fc20d50e2c"), looks := false }, kinds := [], alts := [], laidByText := true, laidKinds := [.data, .pinned], laidTests := true, laidLooks := .later }
def VfsOwnUptoCardSaid : Prop := Claim7.holds Tryd.pinned (.plain (OpenSpec.upto vfsOwnSpec)) vfsOwnUptoCard
end Rows
end Go.Proofs.YthlcjjhfkldmhaaDoor
