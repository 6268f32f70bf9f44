/-
  NARROWER THAN 'FOR EVERY INPUT', by the rows' own cells (each row's printed sentence says how): VfsReal: loops, laid · VfsFaults: loops, laid · VfsTells: loops, laid · VfsReals: loops, laid · VfsNil: laid · VfsTexts: loops, laid · VfsOwn: loops, laid.
  DERIVED. THE GIVEN ROWS OF THIS SEAT. 7 by the template 'for every input the law returns true; each argument reads behind the call as it read before'; 0 by the template 'total and deterministic' (their statements: YthlcjjhfkldmhaaDoorTotals.lean).
  GIVEN WITH THE SEED: the statements are not yours to turn. If you find one false, say at which input.
  Laid BY PROGRAM, IN A SANDBOX (cutbox-rows.mjs): the forced cells as the released guide's own fill.sh prints them over the translation f172e79734ae4e37… (all of the seat's roots in one cut). By AI agents, Wed Nov 11 2026. No macro, syntax, notation, axiom, sorry.
-/
import Derived.Test.YthlcjjhfkldmhaaDoorChecked
import GoSem.PinnedTables
import GoSem.Claim
import GoSem.ClaimJoined
import GoSem.ClaimMapViews
import Derived.JoinedTies
import Derived.KernelRfl
namespace Go.Proofs.YthlcjjhfkldmhaaDoor
/- THE CELL 'sum', in the pinned program and in every row, IS THE sha256 OF THE DUMP (.gsa) THAT YthlcjjhfkldmhaaDoorProg.lean LOADS. Nothing in Lean hashes anything: it is a label: what it is worth is what the hold of that sum in a sandbox is worth. -/
noncomputable def Tryd.pinned : Pinned := { name := "ythlcjjhfkldmhaadoor", sum := "f172e79734ae4e37544725fadc6f3dc876d77d1853ee159fdcd5257a1dc55d46", checked := Tryd.checked }
namespace Rows
def none {H : Type} : Left H := { results := [], args := [] }

/- WHAT THE LISTED PACKAGE-LEVEL VARIABLES READ AS WHEN THE CALL BEGINS. Each datum BY PROGRAM (the guide's laid-datum.mjs) off the statement by which the dump's own 'gosem.cut.vars' lays the variable. In a bare row this is a premise. The card (YthlcjjhfkldmhaaDoorCards.lean) ties it to the program's text. -/
def laid_unicode_utf8_acceptRanges {H : Type} : DataW H := .agg [.agg [.lit (.int .u8 128), .lit (.int .u8 191)], .agg [.lit (.int .u8 160), .lit (.int .u8 191)], .agg [.lit (.int .u8 128), .lit (.int .u8 159)], .agg [.lit (.int .u8 144), .lit (.int .u8 191)], .agg [.lit (.int .u8 128), .lit (.int .u8 143)], .agg [.lit (.int .u8 0), .lit (.int .u8 0)], .agg [.lit (.int .u8 0), .lit (.int .u8 0)], .agg [.lit (.int .u8 0), .lit (.int .u8 0)], .agg [.lit (.int .u8 0), .lit (.int .u8 0)], .agg [.lit (.int .u8 0), .lit (.int .u8 0)], .agg [.lit (.int .u8 0), .lit (.int .u8 0)], .agg [.lit (.int .u8 0), .lit (.int .u8 0)], .agg [.lit (.int .u8 0), .lit (.int .u8 0)], .agg [.lit (.int .u8 0), .lit (.int .u8 0)], .agg [.lit (.int .u8 0), .lit (.int .u8 0)], .agg [.lit (.int .u8 0), .lit (.int .u8 0)]]
/-- One of Go's own tables, pinned by name: the form's constant. -/
def laid_unicode_utf8_first : DataW Unit := Go.Pinned.utf8First

/-- 'paddocklaw04.VfsReal': WHATEVER THE INPUT: true; the input reads as it did. -/
def vfsRealSpec : ChangeSpec := { name := "vfsReal", fn := fun _ => fun
  | [d1, d2, d3] => { results := [.lit (.bool true)], args := [d1, d2, d3] }
  | _ => none }
def vfsRealRow : OpenClaim := { program := "ythlcjjhfkldmhaadoor", sum := "f172e79734ae4e37544725fadc6f3dc876d77d1853ee159fdcd5257a1dc55d46", func := "paddock/paddocklaw04.VfsReal", spec := "vfsReal", inPlace := ["internal/bytealg.IndexByteString", "internal/bytealg.IndexString", "slices.overlaps[paddock/api.File]"], unfollowed := true, recurses := true, named := ["internal/bytealg.MaxLen", "unicode/utf8.first", "unicode/utf8.acceptRanges"], loops := true, apart := false, laid := [("unicode/utf8.acceptRanges", laid_unicode_utf8_acceptRanges), ("unicode/utf8.first", laid_unicode_utf8_first)] }
def VfsRealSaid : Prop := vfsRealRow.holds Tryd.pinned (OpenSpec.ofChange vfsRealSpec)

/-- ITS FALSE NEIGHBOUR: 'it returns false'. Refute it at one input. -/
def vfsRealWrong : ChangeSpec := { name := "vfsReal", fn := fun _ => fun
  | [d1, d2, d3] => { results := [.lit (.bool false)], args := [d1, d2, d3] }
  | _ => none }
def VfsRealWrongFalsely : Prop := vfsRealRow.holds Tryd.pinned (OpenSpec.ofChange vfsRealWrong)

/-- 'paddocklaw04.VfsFaults': WHATEVER THE INPUT: true; the input reads as it did. -/
def vfsFaultsSpec : ChangeSpec := { name := "vfsFaults", fn := fun _ => fun
  | [d1, d2, d3] => { results := [.lit (.bool true)], args := [d1, d2, d3] }
  | _ => none }
def vfsFaultsRow : OpenClaim := { program := "ythlcjjhfkldmhaadoor", sum := "f172e79734ae4e37544725fadc6f3dc876d77d1853ee159fdcd5257a1dc55d46", func := "paddock/paddocklaw04.VfsFaults", spec := "vfsFaults", inPlace := ["internal/bytealg.IndexByteString", "internal/bytealg.IndexString", "slices.overlaps[paddock/api.File]"], unfollowed := true, recurses := true, named := ["internal/bytealg.MaxLen", "unicode/utf8.first", "unicode/utf8.acceptRanges"], loops := true, apart := false, laid := [("unicode/utf8.acceptRanges", laid_unicode_utf8_acceptRanges), ("unicode/utf8.first", laid_unicode_utf8_first)] }
def VfsFaultsSaid : Prop := vfsFaultsRow.holds Tryd.pinned (OpenSpec.ofChange vfsFaultsSpec)

/-- ITS FALSE NEIGHBOUR: 'it returns false'. Refute it at one input. -/
def vfsFaultsWrong : ChangeSpec := { name := "vfsFaults", fn := fun _ => fun
  | [d1, d2, d3] => { results := [.lit (.bool false)], args := [d1, d2, d3] }
  | _ => none }
def VfsFaultsWrongFalsely : Prop := vfsFaultsRow.holds Tryd.pinned (OpenSpec.ofChange vfsFaultsWrong)

/-- 'paddocklaw04.VfsTells': WHATEVER THE INPUT: true; the input reads as it did. -/
def vfsTellsSpec : ChangeSpec := { name := "vfsTells", fn := fun _ => fun
  | [d1, d2, d3] => { results := [.lit (.bool true)], args := [d1, d2, d3] }
  | _ => none }
def vfsTellsRow : OpenClaim := { program := "ythlcjjhfkldmhaadoor", sum := "f172e79734ae4e37544725fadc6f3dc876d77d1853ee159fdcd5257a1dc55d46", func := "paddock/paddocklaw04.VfsTells", spec := "vfsTells", inPlace := ["internal/bytealg.IndexByteString", "internal/bytealg.IndexString", "slices.overlaps[paddock/api.File]"], unfollowed := true, recurses := true, named := ["internal/bytealg.MaxLen", "unicode/utf8.first", "unicode/utf8.acceptRanges"], loops := true, apart := false, laid := [("unicode/utf8.acceptRanges", laid_unicode_utf8_acceptRanges), ("unicode/utf8.first", laid_unicode_utf8_first)] }
def VfsTellsSaid : Prop := vfsTellsRow.holds Tryd.pinned (OpenSpec.ofChange vfsTellsSpec)

/-- ITS FALSE NEIGHBOUR: 'it returns false'. Refute it at one input. -/
def vfsTellsWrong : ChangeSpec := { name := "vfsTells", fn := fun _ => fun
  | [d1, d2, d3] => { results := [.lit (.bool false)], args := [d1, d2, d3] }
  | _ => none }
def VfsTellsWrongFalsely : Prop := vfsTellsRow.holds Tryd.pinned (OpenSpec.ofChange vfsTellsWrong)

/-- 'paddocklaw04.VfsReals': WHATEVER THE INPUT: true; the input reads as it did. -/
def vfsRealsSpec : ChangeSpec := { name := "vfsReals", fn := fun _ => fun
  | [d1, d2, d3] => { results := [.lit (.bool true)], args := [d1, d2, d3] }
  | _ => none }
def vfsRealsRow : OpenClaim := { program := "ythlcjjhfkldmhaadoor", sum := "f172e79734ae4e37544725fadc6f3dc876d77d1853ee159fdcd5257a1dc55d46", func := "paddock/paddocklaw04.VfsReals", spec := "vfsReals", inPlace := ["internal/bytealg.IndexByteString", "internal/bytealg.IndexString", "slices.overlaps[paddock/api.File]"], unfollowed := true, recurses := true, named := ["internal/bytealg.MaxLen", "unicode/utf8.first", "unicode/utf8.acceptRanges"], loops := true, apart := false, laid := [("unicode/utf8.acceptRanges", laid_unicode_utf8_acceptRanges), ("unicode/utf8.first", laid_unicode_utf8_first)] }
def VfsRealsSaid : Prop := vfsRealsRow.holds Tryd.pinned (OpenSpec.ofChange vfsRealsSpec)

/-- ITS FALSE NEIGHBOUR: 'it returns false'. Refute it at one input. -/
def vfsRealsWrong : ChangeSpec := { name := "vfsReals", fn := fun _ => fun
  | [d1, d2, d3] => { results := [.lit (.bool false)], args := [d1, d2, d3] }
  | _ => none }
def VfsRealsWrongFalsely : Prop := vfsRealsRow.holds Tryd.pinned (OpenSpec.ofChange vfsRealsWrong)

/-- 'paddocklaw04.VfsNil': WHATEVER THE INPUT: true; the input reads as it did. -/
def vfsNilSpec : ChangeSpec := { name := "vfsNil", fn := fun _ => fun
  | [d] => { results := [.lit (.bool true)], args := [d] }
  | _ => none }
def vfsNilRow : OpenClaim := { program := "ythlcjjhfkldmhaadoor", sum := "f172e79734ae4e37544725fadc6f3dc876d77d1853ee159fdcd5257a1dc55d46", func := "paddock/paddocklaw04.VfsNil", spec := "vfsNil", inPlace := ["internal/bytealg.IndexByteString", "internal/bytealg.IndexString", "slices.overlaps[paddock/api.File]"], unfollowed := true, recurses := true, named := ["internal/bytealg.MaxLen", "unicode/utf8.first", "unicode/utf8.acceptRanges"], apart := false, laid := [("unicode/utf8.acceptRanges", laid_unicode_utf8_acceptRanges), ("unicode/utf8.first", laid_unicode_utf8_first)] }
def VfsNilSaid : Prop := vfsNilRow.holds Tryd.pinned (OpenSpec.ofChange vfsNilSpec)

/-- ITS FALSE NEIGHBOUR: 'it returns false'. Refute it at one input. -/
def vfsNilWrong : ChangeSpec := { name := "vfsNil", fn := fun _ => fun
  | [d] => { results := [.lit (.bool false)], args := [d] }
  | _ => none }
def VfsNilWrongFalsely : Prop := vfsNilRow.holds Tryd.pinned (OpenSpec.ofChange vfsNilWrong)

/-- 'paddocklaw04.VfsTexts': WHATEVER THE INPUT: true; the input reads as it did. -/
def vfsTextsSpec : ChangeSpec := { name := "vfsTexts", fn := fun _ => fun
  | [d1, d2, d3, d4] => { results := [.lit (.bool true)], args := [d1, d2, d3, d4] }
  | _ => none }
def vfsTextsRow : OpenClaim := { program := "ythlcjjhfkldmhaadoor", sum := "f172e79734ae4e37544725fadc6f3dc876d77d1853ee159fdcd5257a1dc55d46", func := "paddock/paddocklaw04.VfsTexts", spec := "vfsTexts", inPlace := ["internal/bytealg.IndexByteString", "internal/bytealg.IndexString", "slices.overlaps[paddock/api.File]"], unfollowed := true, recurses := true, named := ["internal/bytealg.MaxLen", "unicode/utf8.first", "unicode/utf8.acceptRanges"], loops := true, apart := false, laid := [("unicode/utf8.acceptRanges", laid_unicode_utf8_acceptRanges), ("unicode/utf8.first", laid_unicode_utf8_first)] }
def VfsTextsSaid : Prop := vfsTextsRow.holds Tryd.pinned (OpenSpec.ofChange vfsTextsSpec)

/-- ITS FALSE NEIGHBOUR: 'it returns false'. Refute it at one input. -/
def vfsTextsWrong : ChangeSpec := { name := "vfsTexts", fn := fun _ => fun
  | [d1, d2, d3, d4] => { results := [.lit (.bool false)], args := [d1, d2, d3, d4] }
  | _ => none }
def VfsTextsWrongFalsely : Prop := vfsTextsRow.holds Tryd.pinned (OpenSpec.ofChange vfsTextsWrong)

/-- 'paddocklaw04.VfsOwn': WHATEVER THE INPUT: true; the input reads as it did. -/
def vfsOwnSpec : ChangeSpec := { name := "vfsOwn", fn := fun _ => fun
  | [d1, d2] => { results := [.lit (.bool true)], args := [d1, d2] }
  | _ => none }
def vfsOwnRow : OpenClaim := { program := "ythlcjjhfkldmhaadoor", sum := "f172e79734ae4e37544725fadc6f3dc876d77d1853ee159fdcd5257a1dc55d46", func := "paddock/paddocklaw04.VfsOwn", spec := "vfsOwn", inPlace := ["internal/bytealg.IndexByteString", "internal/bytealg.IndexString", "slices.overlaps[paddock/api.File]"], unfollowed := true, recurses := true, named := ["internal/bytealg.MaxLen", "unicode/utf8.first", "unicode/utf8.acceptRanges"], loops := true, apart := false, laid := [("unicode/utf8.acceptRanges", laid_unicode_utf8_acceptRanges), ("unicode/utf8.first", laid_unicode_utf8_first)] }
def VfsOwnSaid : Prop := vfsOwnRow.holds Tryd.pinned (OpenSpec.ofChange vfsOwnSpec)

/-- ITS FALSE NEIGHBOUR: 'it returns false'. Refute it at one input. -/
def vfsOwnWrong : ChangeSpec := { name := "vfsOwn", fn := fun _ => fun
  | [d1, d2] => { results := [.lit (.bool false)], args := [d1, d2] }
  | _ => none }
def VfsOwnWrongFalsely : Prop := vfsOwnRow.holds Tryd.pinned (OpenSpec.ofChange vfsOwnWrong)

/- THE SECOND FORM. 'bulk': how many values and letters a reading holds, each counted each time it is reached (what is shared counts as often as it is met; a slice's spare places count too). A statement '..UptoSaid' is the law's where the arguments, and the package variables that the reading takes, are together of bulk at most 1048576: NARROWER than '..Said'. Prove '..Said' where nothing that the law and all that it calls make is longer than what came in: it says more and counts as full. Else prove '..UptoSaid'. A law counts once. -/
mutual
def uptoBulk {H : Type} : DataW H → Nat
  | .lit (.string bytes) => bytes.length + 1
  | .lit _ => 1
  | .nil => 1
  | .ptr d => uptoBulk d + 1
  | .slice elems spare => uptoBulkAll elems + uptoBulkAll spare + 1
  | .agg parts => uptoBulkAll parts + 1
  | .iface _ d => uptoBulk d + 1
  | .map entries => uptoBulkEntries entries + 1
  | .held _ => 1
def uptoBulkAll {H : Type} : List (DataW H) → Nat
  | [] => 0
  | d :: r => uptoBulk d + uptoBulkAll r
def uptoBulkEntries {H : Type} : List (Lit × DataW H) → Nat
  | [] => 0
  | x :: r => uptoBulkEntry x + uptoBulkEntries r
def uptoBulkEntry {H : Type} : Lit × DataW H → Nat
  | (.string bytes, d) => bytes.length + uptoBulk d + 1
  | (_, d) => uptoBulk d + 1
 end
def uptoSmall : (H : Type) → List (DataW H) → Bool := fun _ ds => decide (uptoBulkAll ds ≤ 1048576)
def OpenSpec.upto (s : _root_.Go.ChangeSpec) : _root_.Go.OpenSpec := { _root_.Go.OpenSpec.ofChange s with cond := some uptoSmall }

/-- 'paddocklaw04.VfsReal', WHERE WHAT IT READS IS OF BULK AT MOST 1048576: true; the input reads as it did. -/
def vfsRealUptoRow : OpenClaim := { program := "ythlcjjhfkldmhaadoor", sum := "f172e79734ae4e37544725fadc6f3dc876d77d1853ee159fdcd5257a1dc55d46", func := "paddock/paddocklaw04.VfsReal", spec := "vfsReal", inPlace := ["internal/bytealg.IndexByteString", "internal/bytealg.IndexString", "slices.overlaps[paddock/api.File]"], unfollowed := true, recurses := true, named := ["internal/bytealg.MaxLen", "unicode/utf8.first", "unicode/utf8.acceptRanges"], loops := true, apart := false, laid := [("unicode/utf8.acceptRanges", laid_unicode_utf8_acceptRanges), ("unicode/utf8.first", laid_unicode_utf8_first)], narrowed := true }
def VfsRealUptoSaid : Prop := vfsRealUptoRow.holds Tryd.pinned (OpenSpec.upto vfsRealSpec)

/-- 'paddocklaw04.VfsFaults', WHERE WHAT IT READS IS OF BULK AT MOST 1048576: true; the input reads as it did. -/
def vfsFaultsUptoRow : OpenClaim := { program := "ythlcjjhfkldmhaadoor", sum := "f172e79734ae4e37544725fadc6f3dc876d77d1853ee159fdcd5257a1dc55d46", func := "paddock/paddocklaw04.VfsFaults", spec := "vfsFaults", inPlace := ["internal/bytealg.IndexByteString", "internal/bytealg.IndexString", "slices.overlaps[paddock/api.File]"], unfollowed := true, recurses := true, named := ["internal/bytealg.MaxLen", "unicode/utf8.first", "unicode/utf8.acceptRanges"], loops := true, apart := false, laid := [("unicode/utf8.acceptRanges", laid_unicode_utf8_acceptRanges), ("unicode/utf8.first", laid_unicode_utf8_first)], narrowed := true }
def VfsFaultsUptoSaid : Prop := vfsFaultsUptoRow.holds Tryd.pinned (OpenSpec.upto vfsFaultsSpec)

/-- 'paddocklaw04.VfsTells', WHERE WHAT IT READS IS OF BULK AT MOST 1048576: true; the input reads as it did. -/
def vfsTellsUptoRow : OpenClaim := { program := "ythlcjjhfkldmhaadoor", sum := "f172e79734ae4e37544725fadc6f3dc876d77d1853ee159fdcd5257a1dc55d46", func := "paddock/paddocklaw04.VfsTells", spec := "vfsTells", inPlace := ["internal/bytealg.IndexByteString", "internal/bytealg.IndexString", "slices.overlaps[paddock/api.File]"], unfollowed := true, recurses := true, named := ["internal/bytealg.MaxLen", "unicode/utf8.first", "unicode/utf8.acceptRanges"], loops := true, apart := false, laid := [("unicode/utf8.acceptRanges", laid_unicode_utf8_acceptRanges), ("unicode/utf8.first", laid_unicode_utf8_first)], narrowed := true }
def VfsTellsUptoSaid : Prop := vfsTellsUptoRow.holds Tryd.pinned (OpenSpec.upto vfsTellsSpec)

/-- 'paddocklaw04.VfsReals', WHERE WHAT IT READS IS OF BULK AT MOST 1048576: true; the input reads as it did. -/
def vfsRealsUptoRow : OpenClaim := { program := "ythlcjjhfkldmhaadoor", sum := "f172e79734ae4e37544725fadc6f3dc876d77d1853ee159fdcd5257a1dc55d46", func := "paddock/paddocklaw04.VfsReals", spec := "vfsReals", inPlace := ["internal/bytealg.IndexByteString", "internal/bytealg.IndexString", "slices.overlaps[paddock/api.File]"], unfollowed := true, recurses := true, named := ["internal/bytealg.MaxLen", "unicode/utf8.first", "unicode/utf8.acceptRanges"], loops := true, apart := false, laid := [("unicode/utf8.acceptRanges", laid_unicode_utf8_acceptRanges), ("unicode/utf8.first", laid_unicode_utf8_first)], narrowed := true }
def VfsRealsUptoSaid : Prop := vfsRealsUptoRow.holds Tryd.pinned (OpenSpec.upto vfsRealsSpec)

/-- 'paddocklaw04.VfsNil', WHERE WHAT IT READS IS OF BULK AT MOST 1048576: true; the input reads as it did. -/
def vfsNilUptoRow : OpenClaim := { program := "ythlcjjhfkldmhaadoor", sum := "f172e79734ae4e37544725fadc6f3dc876d77d1853ee159fdcd5257a1dc55d46", func := "paddock/paddocklaw04.VfsNil", spec := "vfsNil", inPlace := ["internal/bytealg.IndexByteString", "internal/bytealg.IndexString", "slices.overlaps[paddock/api.File]"], unfollowed := true, recurses := true, named := ["internal/bytealg.MaxLen", "unicode/utf8.first", "unicode/utf8.acceptRanges"], apart := false, laid := [("unicode/utf8.acceptRanges", laid_unicode_utf8_acceptRanges), ("unicode/utf8.first", laid_unicode_utf8_first)], narrowed := true }
def VfsNilUptoSaid : Prop := vfsNilUptoRow.holds Tryd.pinned (OpenSpec.upto vfsNilSpec)

/-- 'paddocklaw04.VfsTexts', WHERE WHAT IT READS IS OF BULK AT MOST 1048576: true; the input reads as it did. -/
def vfsTextsUptoRow : OpenClaim := { program := "ythlcjjhfkldmhaadoor", sum := "f172e79734ae4e37544725fadc6f3dc876d77d1853ee159fdcd5257a1dc55d46", func := "paddock/paddocklaw04.VfsTexts", spec := "vfsTexts", inPlace := ["internal/bytealg.IndexByteString", "internal/bytealg.IndexString", "slices.overlaps[paddock/api.File]"], unfollowed := true, recurses := true, named := ["internal/bytealg.MaxLen", "unicode/utf8.first", "unicode/utf8.acceptRanges"], loops := true, apart := false, laid := [("unicode/utf8.acceptRanges", laid_unicode_utf8_acceptRanges), ("unicode/utf8.first", laid_unicode_utf8_first)], narrowed := true }
def VfsTextsUptoSaid : Prop := vfsTextsUptoRow.holds Tryd.pinned (OpenSpec.upto vfsTextsSpec)

/-- 'paddocklaw04.VfsOwn', WHERE WHAT IT READS IS OF BULK AT MOST 1048576: true; the input reads as it did. -/
def vfsOwnUptoRow : OpenClaim := { program := "ythlcjjhfkldmhaadoor", sum := "f172e79734ae4e37544725fadc6f3dc876d77d1853ee159fdcd5257a1dc55d46", func := "paddock/paddocklaw04.VfsOwn", spec := "vfsOwn", inPlace := ["internal/bytealg.IndexByteString", "internal/bytealg.IndexString", "slices.overlaps[paddock/api.File]"], unfollowed := true, recurses := true, named := ["internal/bytealg.MaxLen", "unicode/utf8.first", "unicode/utf8.acceptRanges"], loops := true, apart := false, laid := [("unicode/utf8.acceptRanges", laid_unicode_utf8_acceptRanges), ("unicode/utf8.first", laid_unicode_utf8_first)], narrowed := true }
def VfsOwnUptoSaid : Prop := vfsOwnUptoRow.holds Tryd.pinned (OpenSpec.upto vfsOwnSpec)

end Rows
end Go.Proofs.YthlcjjhfkldmhaaDoor
