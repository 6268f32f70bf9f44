/-
  NARROWER THAN 'FOR EVERY INPUT', by the rows' own cells (each row's printed sentence says how): TreesTexts: loops, laid · TreesFinds: loops, laid · TreesFound: loops, laid · TreesOwn: loops, laid · TreesChanges: loops, laid · TreesDiffer: loops, laid.
  DERIVED. THE GIVEN ROWS OF THIS SEAT. 6 by the template 'for every input the law returns true; each argument reads behind the call as it read before'; 0 by the template 'total and deterministic' (their statements: YtdnhjnlhmfajnaaGreatDoorTotals.lean).
  GIVEN WITH THE SEED: the statements are not yours to turn. If you find one false, say at which input.
  Laid BY PROGRAM, IN A SANDBOX (cutbox-rows.mjs): the forced cells as the released guide's own fill.sh prints them over the translation 514063e652cad684… (all of the seat's roots in one cut). By AI agents, Wed Nov 11 2026. No macro, syntax, notation, axiom, sorry.
-/
import Derived.Test.YtdnhjnlhmfajnaaGreatDoorChecked
import GoSem.PinnedTables
import GoSem.Claim
import GoSem.ClaimJoined
import GoSem.ClaimMapViews
import Derived.JoinedTies
import Derived.KernelRfl
namespace Go.Proofs.YtdnhjnlhmfajnaaGreatDoor
/- THE CELL 'sum', in the pinned program and in every row, IS THE sha256 OF THE DUMP (.gsa) THAT YtdnhjnlhmfajnaaGreatDoorProg.lean LOADS. Nothing in Lean hashes anything: it is a label: what it is worth is what the hold of that sum in a sandbox is worth. -/
noncomputable def Tryz.pinned : Pinned := { name := "ytdnhjnlhmfajnaagreatdoor", sum := "514063e652cad6846630bb064141a67869126738cb85935aae45da8a3b93e19c", checked := Tryz.checked }
namespace Rows
def none {H : Type} : Left H := { results := [], args := [] }

/- WHAT THE LISTED PACKAGE-LEVEL VARIABLES READ AS WHEN THE CALL BEGINS. Each datum BY PROGRAM (the guide's laid-datum.mjs) off the statement by which the dump's own 'gosem.cut.vars' lays the variable. In a bare row this is a premise. The card (YtdnhjnlhmfajnaaGreatDoorCards.lean) ties it to the program's text. -/
def laid_unicode_utf8_acceptRanges {H : Type} : DataW H := .agg [.agg [.lit (.int .u8 128), .lit (.int .u8 191)], .agg [.lit (.int .u8 160), .lit (.int .u8 191)], .agg [.lit (.int .u8 128), .lit (.int .u8 159)], .agg [.lit (.int .u8 144), .lit (.int .u8 191)], .agg [.lit (.int .u8 128), .lit (.int .u8 143)], .agg [.lit (.int .u8 0), .lit (.int .u8 0)], .agg [.lit (.int .u8 0), .lit (.int .u8 0)], .agg [.lit (.int .u8 0), .lit (.int .u8 0)], .agg [.lit (.int .u8 0), .lit (.int .u8 0)], .agg [.lit (.int .u8 0), .lit (.int .u8 0)], .agg [.lit (.int .u8 0), .lit (.int .u8 0)], .agg [.lit (.int .u8 0), .lit (.int .u8 0)], .agg [.lit (.int .u8 0), .lit (.int .u8 0)], .agg [.lit (.int .u8 0), .lit (.int .u8 0)], .agg [.lit (.int .u8 0), .lit (.int .u8 0)], .agg [.lit (.int .u8 0), .lit (.int .u8 0)]]
def laid_paddock_lines_short {H : Type} : DataW H := .agg [.lit (.int .u8 0), .lit (.int .u8 0), .lit (.int .u8 0), .lit (.int .u8 0), .lit (.int .u8 0), .lit (.int .u8 0), .lit (.int .u8 0), .lit (.int .u8 97), .lit (.int .u8 98), .lit (.int .u8 116), .lit (.int .u8 110), .lit (.int .u8 118), .lit (.int .u8 102), .lit (.int .u8 114)]
/-- One of Go's own tables, pinned by name: the form's constant. -/
def laid_unicode_utf8_first : DataW Unit := Go.Pinned.utf8First

/-- 'paddocklaw03.TreesTexts': WHATEVER THE INPUT: true; the input reads as it did. -/
def treesTextsSpec : ChangeSpec := { name := "treesTexts", fn := fun _ => fun
  | [d1, d2] => { results := [.lit (.bool true)], args := [d1, d2] }
  | _ => none }
def treesTextsRow : OpenClaim := { program := "ytdnhjnlhmfajnaagreatdoor", sum := "514063e652cad6846630bb064141a67869126738cb85935aae45da8a3b93e19c", func := "paddock/paddocklaw03.TreesTexts", spec := "treesTexts", inPlace := ["internal/bytealg.IndexByteString", "internal/bytealg.IndexString", "internal/abi.NoEscape", "internal/bytealg.CountString", "internal/bytealg.abigen_runtime_cmpstring"], unfollowed := true, recurses := true, named := ["paddock/lines.short", "internal/bytealg.MaxLen", "unicode/utf8.first", "unicode/utf8.acceptRanges"], loops := true, apart := false, laid := [("unicode/utf8.acceptRanges", laid_unicode_utf8_acceptRanges), ("paddock/lines.short", laid_paddock_lines_short), ("unicode/utf8.first", laid_unicode_utf8_first)] }
def TreesTextsSaid : Prop := treesTextsRow.holds Tryz.pinned (OpenSpec.ofChange treesTextsSpec)

/-- ITS FALSE NEIGHBOUR: 'it returns false'. Refute it at one input. -/
def treesTextsWrong : ChangeSpec := { name := "treesTexts", fn := fun _ => fun
  | [d1, d2] => { results := [.lit (.bool false)], args := [d1, d2] }
  | _ => none }
def TreesTextsWrongFalsely : Prop := treesTextsRow.holds Tryz.pinned (OpenSpec.ofChange treesTextsWrong)

/-- 'paddocklaw03.TreesFinds': WHATEVER THE INPUT: true; the input reads as it did. -/
def treesFindsSpec : ChangeSpec := { name := "treesFinds", fn := fun _ => fun
  | [d1, d2, d3] => { results := [.lit (.bool true)], args := [d1, d2, d3] }
  | _ => none }
def treesFindsRow : OpenClaim := { program := "ytdnhjnlhmfajnaagreatdoor", sum := "514063e652cad6846630bb064141a67869126738cb85935aae45da8a3b93e19c", func := "paddock/paddocklaw03.TreesFinds", spec := "treesFinds", inPlace := ["internal/bytealg.IndexByteString", "internal/bytealg.IndexString", "internal/abi.NoEscape", "internal/bytealg.CountString", "internal/bytealg.abigen_runtime_cmpstring"], unfollowed := true, recurses := true, named := ["paddock/lines.short", "internal/bytealg.MaxLen", "unicode/utf8.first", "unicode/utf8.acceptRanges"], loops := true, apart := false, laid := [("unicode/utf8.acceptRanges", laid_unicode_utf8_acceptRanges), ("paddock/lines.short", laid_paddock_lines_short), ("unicode/utf8.first", laid_unicode_utf8_first)] }
def TreesFindsSaid : Prop := treesFindsRow.holds Tryz.pinned (OpenSpec.ofChange treesFindsSpec)

/-- ITS FALSE NEIGHBOUR: 'it returns false'. Refute it at one input. -/
def treesFindsWrong : ChangeSpec := { name := "treesFinds", fn := fun _ => fun
  | [d1, d2, d3] => { results := [.lit (.bool false)], args := [d1, d2, d3] }
  | _ => none }
def TreesFindsWrongFalsely : Prop := treesFindsRow.holds Tryz.pinned (OpenSpec.ofChange treesFindsWrong)

/-- 'paddocklaw03.TreesFound': WHATEVER THE INPUT: true; the input reads as it did. -/
def treesFoundSpec : ChangeSpec := { name := "treesFound", fn := fun _ => fun
  | [d1, d2, d3, d4] => { results := [.lit (.bool true)], args := [d1, d2, d3, d4] }
  | _ => none }
def treesFoundRow : OpenClaim := { program := "ytdnhjnlhmfajnaagreatdoor", sum := "514063e652cad6846630bb064141a67869126738cb85935aae45da8a3b93e19c", func := "paddock/paddocklaw03.TreesFound", spec := "treesFound", inPlace := ["internal/bytealg.IndexByteString", "internal/bytealg.IndexString", "internal/abi.NoEscape", "internal/bytealg.CountString", "internal/bytealg.abigen_runtime_cmpstring"], unfollowed := true, recurses := true, named := ["paddock/lines.short", "internal/bytealg.MaxLen", "unicode/utf8.first", "unicode/utf8.acceptRanges"], loops := true, apart := false, laid := [("unicode/utf8.acceptRanges", laid_unicode_utf8_acceptRanges), ("paddock/lines.short", laid_paddock_lines_short), ("unicode/utf8.first", laid_unicode_utf8_first)] }
def TreesFoundSaid : Prop := treesFoundRow.holds Tryz.pinned (OpenSpec.ofChange treesFoundSpec)

/-- ITS FALSE NEIGHBOUR: 'it returns false'. Refute it at one input. -/
def treesFoundWrong : ChangeSpec := { name := "treesFound", fn := fun _ => fun
  | [d1, d2, d3, d4] => { results := [.lit (.bool false)], args := [d1, d2, d3, d4] }
  | _ => none }
def TreesFoundWrongFalsely : Prop := treesFoundRow.holds Tryz.pinned (OpenSpec.ofChange treesFoundWrong)

/-- 'paddocklaw03.TreesOwn': WHATEVER THE INPUT: true; the input reads as it did. -/
def treesOwnSpec : ChangeSpec := { name := "treesOwn", fn := fun _ => fun
  | [d1, d2, d3] => { results := [.lit (.bool true)], args := [d1, d2, d3] }
  | _ => none }
def treesOwnRow : OpenClaim := { program := "ytdnhjnlhmfajnaagreatdoor", sum := "514063e652cad6846630bb064141a67869126738cb85935aae45da8a3b93e19c", func := "paddock/paddocklaw03.TreesOwn", spec := "treesOwn", inPlace := ["internal/bytealg.IndexByteString", "internal/bytealg.IndexString", "internal/abi.NoEscape", "internal/bytealg.CountString", "internal/bytealg.abigen_runtime_cmpstring", "slices.overlaps[paddock/api.File]"], unfollowed := true, recurses := true, named := ["paddock/lines.short", "internal/bytealg.MaxLen", "unicode/utf8.first", "unicode/utf8.acceptRanges"], loops := true, apart := false, laid := [("unicode/utf8.acceptRanges", laid_unicode_utf8_acceptRanges), ("paddock/lines.short", laid_paddock_lines_short), ("unicode/utf8.first", laid_unicode_utf8_first)] }
def TreesOwnSaid : Prop := treesOwnRow.holds Tryz.pinned (OpenSpec.ofChange treesOwnSpec)

/-- ITS FALSE NEIGHBOUR: 'it returns false'. Refute it at one input. -/
def treesOwnWrong : ChangeSpec := { name := "treesOwn", fn := fun _ => fun
  | [d1, d2, d3] => { results := [.lit (.bool false)], args := [d1, d2, d3] }
  | _ => none }
def TreesOwnWrongFalsely : Prop := treesOwnRow.holds Tryz.pinned (OpenSpec.ofChange treesOwnWrong)

/-- 'paddocklaw03.TreesChanges': WHATEVER THE INPUT: true; the input reads as it did. -/
def treesChangesSpec : ChangeSpec := { name := "treesChanges", fn := fun _ => fun
  | [d1, d2] => { results := [.lit (.bool true)], args := [d1, d2] }
  | _ => none }
def treesChangesRow : OpenClaim := { program := "ytdnhjnlhmfajnaagreatdoor", sum := "514063e652cad6846630bb064141a67869126738cb85935aae45da8a3b93e19c", func := "paddock/paddocklaw03.TreesChanges", spec := "treesChanges", inPlace := ["internal/bytealg.IndexByteString", "internal/bytealg.IndexString", "internal/bytealg.abigen_runtime_cmpstring", "internal/abi.NoEscape", "internal/bytealg.CountString"], unfollowed := true, recurses := true, named := ["paddock/lines.short", "internal/bytealg.MaxLen", "unicode/utf8.first", "unicode/utf8.acceptRanges"], loops := true, apart := false, laid := [("unicode/utf8.acceptRanges", laid_unicode_utf8_acceptRanges), ("paddock/lines.short", laid_paddock_lines_short), ("unicode/utf8.first", laid_unicode_utf8_first)] }
def TreesChangesSaid : Prop := treesChangesRow.holds Tryz.pinned (OpenSpec.ofChange treesChangesSpec)

/-- ITS FALSE NEIGHBOUR: 'it returns false'. Refute it at one input. -/
def treesChangesWrong : ChangeSpec := { name := "treesChanges", fn := fun _ => fun
  | [d1, d2] => { results := [.lit (.bool false)], args := [d1, d2] }
  | _ => none }
def TreesChangesWrongFalsely : Prop := treesChangesRow.holds Tryz.pinned (OpenSpec.ofChange treesChangesWrong)

/-- 'paddocklaw03.TreesDiffer': WHATEVER THE INPUT: true; the input reads as it did. -/
def treesDifferSpec : ChangeSpec := { name := "treesDiffer", fn := fun _ => fun
  | [d1, d2] => { results := [.lit (.bool true)], args := [d1, d2] }
  | _ => none }
def treesDifferRow : OpenClaim := { program := "ytdnhjnlhmfajnaagreatdoor", sum := "514063e652cad6846630bb064141a67869126738cb85935aae45da8a3b93e19c", func := "paddock/paddocklaw03.TreesDiffer", spec := "treesDiffer", inPlace := ["internal/bytealg.IndexByteString", "internal/bytealg.IndexString", "internal/abi.NoEscape", "internal/bytealg.CountString", "internal/bytealg.abigen_runtime_cmpstring"], unfollowed := true, recurses := true, named := ["paddock/lines.short", "internal/bytealg.MaxLen", "unicode/utf8.first", "unicode/utf8.acceptRanges"], loops := true, apart := false, laid := [("unicode/utf8.acceptRanges", laid_unicode_utf8_acceptRanges), ("paddock/lines.short", laid_paddock_lines_short), ("unicode/utf8.first", laid_unicode_utf8_first)] }
def TreesDifferSaid : Prop := treesDifferRow.holds Tryz.pinned (OpenSpec.ofChange treesDifferSpec)

/-- ITS FALSE NEIGHBOUR: 'it returns false'. Refute it at one input. -/
def treesDifferWrong : ChangeSpec := { name := "treesDiffer", fn := fun _ => fun
  | [d1, d2] => { results := [.lit (.bool false)], args := [d1, d2] }
  | _ => none }
def TreesDifferWrongFalsely : Prop := treesDifferRow.holds Tryz.pinned (OpenSpec.ofChange treesDifferWrong)

/- THE SECOND FORM. 'bulk': how many values and letters a reading holds, each counted each time it is reached (what is shared counts as often as it is met; a slice's spare places count too). A statement '..UptoSaid' is the law's where the arguments, and the package variables that the reading takes, are together of bulk at most 1048576: NARROWER than '..Said'. Prove '..Said' where nothing that the law and all that it calls make is longer than what came in: it says more and counts as full. Else prove '..UptoSaid'. A law counts once. -/
mutual
def uptoBulk {H : Type} : DataW H → Nat
  | .lit (.string bytes) => bytes.length + 1
  | .lit _ => 1
  | .nil => 1
  | .ptr d => uptoBulk d + 1
  | .slice elems spare => uptoBulkAll elems + uptoBulkAll spare + 1
  | .agg parts => uptoBulkAll parts + 1
  | .iface _ d => uptoBulk d + 1
  | .map entries => uptoBulkEntries entries + 1
  | .held _ => 1
def uptoBulkAll {H : Type} : List (DataW H) → Nat
  | [] => 0
  | d :: r => uptoBulk d + uptoBulkAll r
def uptoBulkEntries {H : Type} : List (Lit × DataW H) → Nat
  | [] => 0
  | x :: r => uptoBulkEntry x + uptoBulkEntries r
def uptoBulkEntry {H : Type} : Lit × DataW H → Nat
  | (.string bytes, d) => bytes.length + uptoBulk d + 1
  | (_, d) => uptoBulk d + 1
 end
def uptoSmall : (H : Type) → List (DataW H) → Bool := fun _ ds => decide (uptoBulkAll ds ≤ 1048576)
def OpenSpec.upto (s : _root_.Go.ChangeSpec) : _root_.Go.OpenSpec := { _root_.Go.OpenSpec.ofChange s with cond := some uptoSmall }

/-- 'paddocklaw03.TreesTexts', WHERE WHAT IT READS IS OF BULK AT MOST 1048576: true; the input reads as it did. -/
def treesTextsUptoRow : OpenClaim := { program := "ytdnhjnlhmfajnaagreatdoor", sum := "514063e652cad6846630bb064141a67869126738cb85935aae45da8a3b93e19c", func := "paddock/paddocklaw03.TreesTexts", spec := "treesTexts", inPlace := ["internal/bytealg.IndexByteString", "internal/bytealg.IndexString", "internal/abi.NoEscape", "internal/bytealg.CountString", "internal/bytealg.abigen_runtime_cmpstring"], unfollowed := true, recurses := true, named := ["paddock/lines.short", "internal/bytealg.MaxLen", "unicode/utf8.first", "unicode/utf8.acceptRanges"], loops := true, apart := false, laid := [("unicode/utf8.acceptRanges", laid_unicode_utf8_acceptRanges), ("paddock/lines.short", laid_paddock_lines_short), ("unicode/utf8.first", laid_unicode_utf8_first)], narrowed := true }
def TreesTextsUptoSaid : Prop := treesTextsUptoRow.holds Tryz.pinned (OpenSpec.upto treesTextsSpec)

/-- 'paddocklaw03.TreesFinds', WHERE WHAT IT READS IS OF BULK AT MOST 1048576: true; the input reads as it did. -/
def treesFindsUptoRow : OpenClaim := { program := "ytdnhjnlhmfajnaagreatdoor", sum := "514063e652cad6846630bb064141a67869126738cb85935aae45da8a3b93e19c", func := "paddock/paddocklaw03.TreesFinds", spec := "treesFinds", inPlace := ["internal/bytealg.IndexByteString", "internal/bytealg.IndexString", "internal/abi.NoEscape", "internal/bytealg.CountString", "internal/bytealg.abigen_runtime_cmpstring"], unfollowed := true, recurses := true, named := ["paddock/lines.short", "internal/bytealg.MaxLen", "unicode/utf8.first", "unicode/utf8.acceptRanges"], loops := true, apart := false, laid := [("unicode/utf8.acceptRanges", laid_unicode_utf8_acceptRanges), ("paddock/lines.short", laid_paddock_lines_short), ("unicode/utf8.first", laid_unicode_utf8_first)], narrowed := true }
def TreesFindsUptoSaid : Prop := treesFindsUptoRow.holds Tryz.pinned (OpenSpec.upto treesFindsSpec)

/-- 'paddocklaw03.TreesFound', WHERE WHAT IT READS IS OF BULK AT MOST 1048576: true; the input reads as it did. -/
def treesFoundUptoRow : OpenClaim := { program := "ytdnhjnlhmfajnaagreatdoor", sum := "514063e652cad6846630bb064141a67869126738cb85935aae45da8a3b93e19c", func := "paddock/paddocklaw03.TreesFound", spec := "treesFound", inPlace := ["internal/bytealg.IndexByteString", "internal/bytealg.IndexString", "internal/abi.NoEscape", "internal/bytealg.CountString", "internal/bytealg.abigen_runtime_cmpstring"], unfollowed := true, recurses := true, named := ["paddock/lines.short", "internal/bytealg.MaxLen", "unicode/utf8.first", "unicode/utf8.acceptRanges"], loops := true, apart := false, laid := [("unicode/utf8.acceptRanges", laid_unicode_utf8_acceptRanges), ("paddock/lines.short", laid_paddock_lines_short), ("unicode/utf8.first", laid_unicode_utf8_first)], narrowed := true }
def TreesFoundUptoSaid : Prop := treesFoundUptoRow.holds Tryz.pinned (OpenSpec.upto treesFoundSpec)

/-- 'paddocklaw03.TreesOwn', WHERE WHAT IT READS IS OF BULK AT MOST 1048576: true; the input reads as it did. -/
def treesOwnUptoRow : OpenClaim := { program := "ytdnhjnlhmfajnaagreatdoor", sum := "514063e652cad6846630bb064141a67869126738cb85935aae45da8a3b93e19c", func := "paddock/paddocklaw03.TreesOwn", spec := "treesOwn", inPlace := ["internal/bytealg.IndexByteString", "internal/bytealg.IndexString", "internal/abi.NoEscape", "internal/bytealg.CountString", "internal/bytealg.abigen_runtime_cmpstring", "slices.overlaps[paddock/api.File]"], unfollowed := true, recurses := true, named := ["paddock/lines.short", "internal/bytealg.MaxLen", "unicode/utf8.first", "unicode/utf8.acceptRanges"], loops := true, apart := false, laid := [("unicode/utf8.acceptRanges", laid_unicode_utf8_acceptRanges), ("paddock/lines.short", laid_paddock_lines_short), ("unicode/utf8.first", laid_unicode_utf8_first)], narrowed := true }
def TreesOwnUptoSaid : Prop := treesOwnUptoRow.holds Tryz.pinned (OpenSpec.upto treesOwnSpec)

/-- 'paddocklaw03.TreesChanges', WHERE WHAT IT READS IS OF BULK AT MOST 1048576: true; the input reads as it did. -/
def treesChangesUptoRow : OpenClaim := { program := "ytdnhjnlhmfajnaagreatdoor", sum := "514063e652cad6846630bb064141a67869126738cb85935aae45da8a3b93e19c", func := "paddock/paddocklaw03.TreesChanges", spec := "treesChanges", inPlace := ["internal/bytealg.IndexByteString", "internal/bytealg.IndexString", "internal/bytealg.abigen_runtime_cmpstring", "internal/abi.NoEscape", "internal/bytealg.CountString"], unfollowed := true, recurses := true, named := ["paddock/lines.short", "internal/bytealg.MaxLen", "unicode/utf8.first", "unicode/utf8.acceptRanges"], loops := true, apart := false, laid := [("unicode/utf8.acceptRanges", laid_unicode_utf8_acceptRanges), ("paddock/lines.short", laid_paddock_lines_short), ("unicode/utf8.first", laid_unicode_utf8_first)], narrowed := true }
def TreesChangesUptoSaid : Prop := treesChangesUptoRow.holds Tryz.pinned (OpenSpec.upto treesChangesSpec)

/-- 'paddocklaw03.TreesDiffer', WHERE WHAT IT READS IS OF BULK AT MOST 1048576: true; the input reads as it did. -/
def treesDifferUptoRow : OpenClaim := { program := "ytdnhjnlhmfajnaagreatdoor", sum := "514063e652cad6846630bb064141a67869126738cb85935aae45da8a3b93e19c", func := "paddock/paddocklaw03.TreesDiffer", spec := "treesDiffer", inPlace := ["internal/bytealg.IndexByteString", "internal/bytealg.IndexString", "internal/abi.NoEscape", "internal/bytealg.CountString", "internal/bytealg.abigen_runtime_cmpstring"], unfollowed := true, recurses := true, named := ["paddock/lines.short", "internal/bytealg.MaxLen", "unicode/utf8.first", "unicode/utf8.acceptRanges"], loops := true, apart := false, laid := [("unicode/utf8.acceptRanges", laid_unicode_utf8_acceptRanges), ("paddock/lines.short", laid_paddock_lines_short), ("unicode/utf8.first", laid_unicode_utf8_first)], narrowed := true }
def TreesDifferUptoSaid : Prop := treesDifferUptoRow.holds Tryz.pinned (OpenSpec.upto treesDifferSpec)

end Rows
end Go.Proofs.YtdnhjnlhmfajnaaGreatDoor
