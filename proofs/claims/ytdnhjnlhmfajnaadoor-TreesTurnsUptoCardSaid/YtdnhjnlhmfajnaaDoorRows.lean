/-
  NARROWER THAN 'FOR EVERY INPUT', by the rows' own cells (each row's printed sentence says how): TreesBack: loops, laid · TreesChecks: loops, laid · TreesTurns: loops, laid · TreesPuts: loops, laid.
  DERIVED. THE GIVEN ROWS OF THIS SEAT. 4 by the template 'for every input the law returns true; each argument reads behind the call as it read before'; 0 by the template 'total and deterministic' (their statements: YtdnhjnlhmfajnaaDoorTotals.lean).
  GIVEN WITH THE SEED: the statements are not yours to turn. If you find one false, say at which input.
  Laid BY PROGRAM, IN A SANDBOX (cutbox-rows.mjs): the forced cells as the released guide's own fill.sh prints them over the translation 7328206efb3f0519… (all of the seat's roots in one cut). By AI agents, Wed Nov 11 2026. No macro, syntax, notation, axiom, sorry.
-/
import Derived.Test.YtdnhjnlhmfajnaaDoorChecked
import GoSem.PinnedTables
import GoSem.Claim
import GoSem.ClaimJoined
import GoSem.ClaimMapViews
import Derived.JoinedTies
import Derived.KernelRfl
namespace Go.Proofs.YtdnhjnlhmfajnaaDoor
/- THE CELL 'sum', in the pinned program and in every row, IS THE sha256 OF THE DUMP (.gsa) THAT YtdnhjnlhmfajnaaDoorProg.lean LOADS. Nothing in Lean hashes anything: it is a label: what it is worth is what the hold of that sum in a sandbox is worth. -/
noncomputable def Tryd.pinned : Pinned := { name := "ytdnhjnlhmfajnaadoor", sum := "7328206efb3f0519fa4985f796e5bda4949fa256696b1c1f93f7994d5f0f8ed1", checked := Tryd.checked }
namespace Rows
def none {H : Type} : Left H := { results := [], args := [] }

/- WHAT THE LISTED PACKAGE-LEVEL VARIABLES READ AS WHEN THE CALL BEGINS. Each datum BY PROGRAM (the guide's laid-datum.mjs) off the statement by which the dump's own 'gosem.cut.vars' lays the variable. In a bare row this is a premise. The card (YtdnhjnlhmfajnaaDoorCards.lean) ties it to the program's text. -/
def laid_unicode_utf8_acceptRanges {H : Type} : DataW H := .agg [.agg [.lit (.int .u8 128), .lit (.int .u8 191)], .agg [.lit (.int .u8 160), .lit (.int .u8 191)], .agg [.lit (.int .u8 128), .lit (.int .u8 159)], .agg [.lit (.int .u8 144), .lit (.int .u8 191)], .agg [.lit (.int .u8 128), .lit (.int .u8 143)], .agg [.lit (.int .u8 0), .lit (.int .u8 0)], .agg [.lit (.int .u8 0), .lit (.int .u8 0)], .agg [.lit (.int .u8 0), .lit (.int .u8 0)], .agg [.lit (.int .u8 0), .lit (.int .u8 0)], .agg [.lit (.int .u8 0), .lit (.int .u8 0)], .agg [.lit (.int .u8 0), .lit (.int .u8 0)], .agg [.lit (.int .u8 0), .lit (.int .u8 0)], .agg [.lit (.int .u8 0), .lit (.int .u8 0)], .agg [.lit (.int .u8 0), .lit (.int .u8 0)], .agg [.lit (.int .u8 0), .lit (.int .u8 0)], .agg [.lit (.int .u8 0), .lit (.int .u8 0)]]
def laid_paddock_lines_short {H : Type} : DataW H := .agg [.lit (.int .u8 0), .lit (.int .u8 0), .lit (.int .u8 0), .lit (.int .u8 0), .lit (.int .u8 0), .lit (.int .u8 0), .lit (.int .u8 0), .lit (.int .u8 97), .lit (.int .u8 98), .lit (.int .u8 116), .lit (.int .u8 110), .lit (.int .u8 118), .lit (.int .u8 102), .lit (.int .u8 114)]
/-- One of Go's own tables, pinned by name: the form's constant. -/
def laid_unicode_utf8_first : DataW Unit := Go.Pinned.utf8First

/-- 'paddocklaw03.TreesBack': WHATEVER THE INPUT: true; the input reads as it did. -/
def treesBackSpec : ChangeSpec := { name := "treesBack", fn := fun _ => fun
  | [d1, d2] => { results := [.lit (.bool true)], args := [d1, d2] }
  | _ => none }
def treesBackRow : OpenClaim := { program := "ytdnhjnlhmfajnaadoor", sum := "7328206efb3f0519fa4985f796e5bda4949fa256696b1c1f93f7994d5f0f8ed1", func := "paddock/paddocklaw03.TreesBack", spec := "treesBack", inPlace := ["internal/bytealg.IndexByteString", "internal/bytealg.IndexString", "internal/abi.NoEscape", "internal/bytealg.CountString", "internal/bytealg.abigen_runtime_cmpstring"], unfollowed := true, recurses := true, named := ["paddock/lines.short", "internal/bytealg.MaxLen", "unicode/utf8.first", "unicode/utf8.acceptRanges"], loops := true, apart := false, laid := [("unicode/utf8.acceptRanges", laid_unicode_utf8_acceptRanges), ("paddock/lines.short", laid_paddock_lines_short), ("unicode/utf8.first", laid_unicode_utf8_first)] }
def TreesBackSaid : Prop := treesBackRow.holds Tryd.pinned (OpenSpec.ofChange treesBackSpec)

/-- ITS FALSE NEIGHBOUR: 'it returns false'. Refute it at one input. -/
def treesBackWrong : ChangeSpec := { name := "treesBack", fn := fun _ => fun
  | [d1, d2] => { results := [.lit (.bool false)], args := [d1, d2] }
  | _ => none }
def TreesBackWrongFalsely : Prop := treesBackRow.holds Tryd.pinned (OpenSpec.ofChange treesBackWrong)

/-- 'paddocklaw03.TreesChecks': WHATEVER THE INPUT: true; the input reads as it did. -/
def treesChecksSpec : ChangeSpec := { name := "treesChecks", fn := fun _ => fun
  | [d1, d2] => { results := [.lit (.bool true)], args := [d1, d2] }
  | _ => none }
def treesChecksRow : OpenClaim := { program := "ytdnhjnlhmfajnaadoor", sum := "7328206efb3f0519fa4985f796e5bda4949fa256696b1c1f93f7994d5f0f8ed1", func := "paddock/paddocklaw03.TreesChecks", spec := "treesChecks", inPlace := ["internal/bytealg.IndexByteString", "internal/bytealg.IndexString", "internal/abi.NoEscape", "internal/bytealg.CountString", "internal/bytealg.abigen_runtime_cmpstring"], unfollowed := true, recurses := true, named := ["paddock/lines.short", "internal/bytealg.MaxLen", "unicode/utf8.first", "unicode/utf8.acceptRanges"], loops := true, apart := false, laid := [("unicode/utf8.acceptRanges", laid_unicode_utf8_acceptRanges), ("paddock/lines.short", laid_paddock_lines_short), ("unicode/utf8.first", laid_unicode_utf8_first)] }
def TreesChecksSaid : Prop := treesChecksRow.holds Tryd.pinned (OpenSpec.ofChange treesChecksSpec)

/-- ITS FALSE NEIGHBOUR: 'it returns false'. Refute it at one input. -/
def treesChecksWrong : ChangeSpec := { name := "treesChecks", fn := fun _ => fun
  | [d1, d2] => { results := [.lit (.bool false)], args := [d1, d2] }
  | _ => none }
def TreesChecksWrongFalsely : Prop := treesChecksRow.holds Tryd.pinned (OpenSpec.ofChange treesChecksWrong)

/-- 'paddocklaw03.TreesTurns': WHATEVER THE INPUT: true; the input reads as it did. -/
def treesTurnsSpec : ChangeSpec := { name := "treesTurns", fn := fun _ => fun
  | [d1, d2, d3] => { results := [.lit (.bool true)], args := [d1, d2, d3] }
  | _ => none }
def treesTurnsRow : OpenClaim := { program := "ytdnhjnlhmfajnaadoor", sum := "7328206efb3f0519fa4985f796e5bda4949fa256696b1c1f93f7994d5f0f8ed1", func := "paddock/paddocklaw03.TreesTurns", spec := "treesTurns", inPlace := ["internal/bytealg.IndexByteString", "internal/bytealg.IndexString", "slices.overlaps[paddock/api.File]", "internal/abi.NoEscape", "internal/bytealg.CountString", "internal/bytealg.abigen_runtime_cmpstring"], unfollowed := true, recurses := true, named := ["paddock/lines.short", "internal/bytealg.MaxLen", "unicode/utf8.first", "unicode/utf8.acceptRanges"], loops := true, apart := false, laid := [("unicode/utf8.acceptRanges", laid_unicode_utf8_acceptRanges), ("paddock/lines.short", laid_paddock_lines_short), ("unicode/utf8.first", laid_unicode_utf8_first)] }
def TreesTurnsSaid : Prop := treesTurnsRow.holds Tryd.pinned (OpenSpec.ofChange treesTurnsSpec)

/-- ITS FALSE NEIGHBOUR: 'it returns false'. Refute it at one input. -/
def treesTurnsWrong : ChangeSpec := { name := "treesTurns", fn := fun _ => fun
  | [d1, d2, d3] => { results := [.lit (.bool false)], args := [d1, d2, d3] }
  | _ => none }
def TreesTurnsWrongFalsely : Prop := treesTurnsRow.holds Tryd.pinned (OpenSpec.ofChange treesTurnsWrong)

/-- 'paddocklaw03.TreesPuts': WHATEVER THE INPUT: true; the input reads as it did. -/
def treesPutsSpec : ChangeSpec := { name := "treesPuts", fn := fun _ => fun
  | [d1, d2, d3, d4] => { results := [.lit (.bool true)], args := [d1, d2, d3, d4] }
  | _ => none }
def treesPutsRow : OpenClaim := { program := "ytdnhjnlhmfajnaadoor", sum := "7328206efb3f0519fa4985f796e5bda4949fa256696b1c1f93f7994d5f0f8ed1", func := "paddock/paddocklaw03.TreesPuts", spec := "treesPuts", inPlace := ["internal/bytealg.IndexByteString", "internal/bytealg.IndexString", "internal/abi.NoEscape", "internal/bytealg.CountString", "internal/bytealg.abigen_runtime_cmpstring", "slices.overlaps[paddock/api.File]"], unfollowed := true, recurses := true, named := ["paddock/lines.short", "internal/bytealg.MaxLen", "unicode/utf8.first", "unicode/utf8.acceptRanges"], loops := true, apart := false, laid := [("unicode/utf8.acceptRanges", laid_unicode_utf8_acceptRanges), ("paddock/lines.short", laid_paddock_lines_short), ("unicode/utf8.first", laid_unicode_utf8_first)] }
def TreesPutsSaid : Prop := treesPutsRow.holds Tryd.pinned (OpenSpec.ofChange treesPutsSpec)

/-- ITS FALSE NEIGHBOUR: 'it returns false'. Refute it at one input. -/
def treesPutsWrong : ChangeSpec := { name := "treesPuts", fn := fun _ => fun
  | [d1, d2, d3, d4] => { results := [.lit (.bool false)], args := [d1, d2, d3, d4] }
  | _ => none }
def TreesPutsWrongFalsely : Prop := treesPutsRow.holds Tryd.pinned (OpenSpec.ofChange treesPutsWrong)

/- THE SECOND FORM. 'bulk': how many values and letters a reading holds, each counted each time it is reached (what is shared counts as often as it is met; a slice's spare places count too). A statement '..UptoSaid' is the law's where the arguments, and the package variables that the reading takes, are together of bulk at most 1048576: NARROWER than '..Said'. Prove '..Said' where nothing that the law and all that it calls make is longer than what came in: it says more and counts as full. Else prove '..UptoSaid'. A law counts once. -/
mutual
def uptoBulk {H : Type} : DataW H → Nat
  | .lit (.string bytes) => bytes.length + 1
  | .lit _ => 1
  | .nil => 1
  | .ptr d => uptoBulk d + 1
  | .slice elems spare => uptoBulkAll elems + uptoBulkAll spare + 1
  | .agg parts => uptoBulkAll parts + 1
  | .iface _ d => uptoBulk d + 1
  | .map entries => uptoBulkEntries entries + 1
  | .held _ => 1
def uptoBulkAll {H : Type} : List (DataW H) → Nat
  | [] => 0
  | d :: r => uptoBulk d + uptoBulkAll r
def uptoBulkEntries {H : Type} : List (Lit × DataW H) → Nat
  | [] => 0
  | x :: r => uptoBulkEntry x + uptoBulkEntries r
def uptoBulkEntry {H : Type} : Lit × DataW H → Nat
  | (.string bytes, d) => bytes.length + uptoBulk d + 1
  | (_, d) => uptoBulk d + 1
 end
def uptoSmall : (H : Type) → List (DataW H) → Bool := fun _ ds => decide (uptoBulkAll ds ≤ 1048576)
def OpenSpec.upto (s : _root_.Go.ChangeSpec) : _root_.Go.OpenSpec := { _root_.Go.OpenSpec.ofChange s with cond := some uptoSmall }

/-- 'paddocklaw03.TreesBack', WHERE WHAT IT READS IS OF BULK AT MOST 1048576: true; the input reads as it did. -/
def treesBackUptoRow : OpenClaim := { program := "ytdnhjnlhmfajnaadoor", sum := "7328206efb3f0519fa4985f796e5bda4949fa256696b1c1f93f7994d5f0f8ed1", func := "paddock/paddocklaw03.TreesBack", spec := "treesBack", inPlace := ["internal/bytealg.IndexByteString", "internal/bytealg.IndexString", "internal/abi.NoEscape", "internal/bytealg.CountString", "internal/bytealg.abigen_runtime_cmpstring"], unfollowed := true, recurses := true, named := ["paddock/lines.short", "internal/bytealg.MaxLen", "unicode/utf8.first", "unicode/utf8.acceptRanges"], loops := true, apart := false, laid := [("unicode/utf8.acceptRanges", laid_unicode_utf8_acceptRanges), ("paddock/lines.short", laid_paddock_lines_short), ("unicode/utf8.first", laid_unicode_utf8_first)], narrowed := true }
def TreesBackUptoSaid : Prop := treesBackUptoRow.holds Tryd.pinned (OpenSpec.upto treesBackSpec)

/-- 'paddocklaw03.TreesChecks', WHERE WHAT IT READS IS OF BULK AT MOST 1048576: true; the input reads as it did. -/
def treesChecksUptoRow : OpenClaim := { program := "ytdnhjnlhmfajnaadoor", sum := "7328206efb3f0519fa4985f796e5bda4949fa256696b1c1f93f7994d5f0f8ed1", func := "paddock/paddocklaw03.TreesChecks", spec := "treesChecks", inPlace := ["internal/bytealg.IndexByteString", "internal/bytealg.IndexString", "internal/abi.NoEscape", "internal/bytealg.CountString", "internal/bytealg.abigen_runtime_cmpstring"], unfollowed := true, recurses := true, named := ["paddock/lines.short", "internal/bytealg.MaxLen", "unicode/utf8.first", "unicode/utf8.acceptRanges"], loops := true, apart := false, laid := [("unicode/utf8.acceptRanges", laid_unicode_utf8_acceptRanges), ("paddock/lines.short", laid_paddock_lines_short), ("unicode/utf8.first", laid_unicode_utf8_first)], narrowed := true }
def TreesChecksUptoSaid : Prop := treesChecksUptoRow.holds Tryd.pinned (OpenSpec.upto treesChecksSpec)

/-- 'paddocklaw03.TreesTurns', WHERE WHAT IT READS IS OF BULK AT MOST 1048576: true; the input reads as it did. -/
def treesTurnsUptoRow : OpenClaim := { program := "ytdnhjnlhmfajnaadoor", sum := "7328206efb3f0519fa4985f796e5bda4949fa256696b1c1f93f7994d5f0f8ed1", func := "paddock/paddocklaw03.TreesTurns", spec := "treesTurns", inPlace := ["internal/bytealg.IndexByteString", "internal/bytealg.IndexString", "slices.overlaps[paddock/api.File]", "internal/abi.NoEscape", "internal/bytealg.CountString", "internal/bytealg.abigen_runtime_cmpstring"], unfollowed := true, recurses := true, named := ["paddock/lines.short", "internal/bytealg.MaxLen", "unicode/utf8.first", "unicode/utf8.acceptRanges"], loops := true, apart := false, laid := [("unicode/utf8.acceptRanges", laid_unicode_utf8_acceptRanges), ("paddock/lines.short", laid_paddock_lines_short), ("unicode/utf8.first", laid_unicode_utf8_first)], narrowed := true }
def TreesTurnsUptoSaid : Prop := treesTurnsUptoRow.holds Tryd.pinned (OpenSpec.upto treesTurnsSpec)

/-- 'paddocklaw03.TreesPuts', WHERE WHAT IT READS IS OF BULK AT MOST 1048576: true; the input reads as it did. -/
def treesPutsUptoRow : OpenClaim := { program := "ytdnhjnlhmfajnaadoor", sum := "7328206efb3f0519fa4985f796e5bda4949fa256696b1c1f93f7994d5f0f8ed1", func := "paddock/paddocklaw03.TreesPuts", spec := "treesPuts", inPlace := ["internal/bytealg.IndexByteString", "internal/bytealg.IndexString", "internal/abi.NoEscape", "internal/bytealg.CountString", "internal/bytealg.abigen_runtime_cmpstring", "slices.overlaps[paddock/api.File]"], unfollowed := true, recurses := true, named := ["paddock/lines.short", "internal/bytealg.MaxLen", "unicode/utf8.first", "unicode/utf8.acceptRanges"], loops := true, apart := false, laid := [("unicode/utf8.acceptRanges", laid_unicode_utf8_acceptRanges), ("paddock/lines.short", laid_paddock_lines_short), ("unicode/utf8.first", laid_unicode_utf8_first)], narrowed := true }
def TreesPutsUptoSaid : Prop := treesPutsUptoRow.holds Tryd.pinned (OpenSpec.upto treesPutsSpec)

end Rows
end Go.Proofs.YtdnhjnlhmfajnaaDoor
