/-
  NARROWER THAN 'FOR EVERY INPUT', by the rows' own cells (each row's printed sentence says how): PathsNormal: laid · PathsOnce: laid · PathsBehind: laid · PathsThere: laid · PathsOrder: laid · PathsCovers: laid · PathsCover: laid · PathsOwn: laid.
  DERIVED. THE GIVEN ROWS OF THIS SEAT. 8 by the template 'for every input the law returns true; each argument reads behind the call as it read before'; 0 by the template 'total and deterministic' (their statements: YtdhchmonmbppmaaDoorTotals.lean).
  GIVEN WITH THE SEED: the statements are not yours to turn. If you find one false, say at which input.
  Laid BY PROGRAM, IN A SANDBOX (cutbox-rows.mjs): the forced cells as the released guide's own fill.sh prints them over the translation 96187e0a95b4a80f… (all of the seat's roots in one cut). By AI agents, Wed Nov 11 2026. No macro, syntax, notation, axiom, sorry.
-/
import Derived.Test.YtdhchmonmbppmaaDoorChecked
import GoSem.PinnedTables
import GoSem.Claim
import GoSem.ClaimJoined
import GoSem.ClaimMapViews
import Derived.JoinedTies
import Derived.KernelRfl
namespace Go.Proofs.YtdhchmonmbppmaaDoor
/- THE CELL 'sum', in the pinned program and in every row, IS THE sha256 OF THE DUMP (.gsa) THAT YtdhchmonmbppmaaDoorProg.lean LOADS. Nothing in Lean hashes anything: it is a label: what it is worth is what the hold of that sum in a sandbox is worth. -/
noncomputable def Tryd.pinned : Pinned := { name := "ytdhchmonmbppmaadoor", sum := "96187e0a95b4a80f924f16f739d1f0717fb58a061a877e52af66cb623c05c785", checked := Tryd.checked }
namespace Rows
def none {H : Type} : Left H := { results := [], args := [] }

/- WHAT THE LISTED PACKAGE-LEVEL VARIABLES READ AS WHEN THE CALL BEGINS. Each datum BY PROGRAM (the guide's laid-datum.mjs) off the statement by which the dump's own 'gosem.cut.vars' lays the variable. In a bare row this is a premise. The card (YtdhchmonmbppmaaDoorCards.lean) ties it to the program's text. -/
def laid_unicode_utf8_acceptRanges {H : Type} : DataW H := .agg [.agg [.lit (.int .u8 128), .lit (.int .u8 191)], .agg [.lit (.int .u8 160), .lit (.int .u8 191)], .agg [.lit (.int .u8 128), .lit (.int .u8 159)], .agg [.lit (.int .u8 144), .lit (.int .u8 191)], .agg [.lit (.int .u8 128), .lit (.int .u8 143)], .agg [.lit (.int .u8 0), .lit (.int .u8 0)], .agg [.lit (.int .u8 0), .lit (.int .u8 0)], .agg [.lit (.int .u8 0), .lit (.int .u8 0)], .agg [.lit (.int .u8 0), .lit (.int .u8 0)], .agg [.lit (.int .u8 0), .lit (.int .u8 0)], .agg [.lit (.int .u8 0), .lit (.int .u8 0)], .agg [.lit (.int .u8 0), .lit (.int .u8 0)], .agg [.lit (.int .u8 0), .lit (.int .u8 0)], .agg [.lit (.int .u8 0), .lit (.int .u8 0)], .agg [.lit (.int .u8 0), .lit (.int .u8 0)], .agg [.lit (.int .u8 0), .lit (.int .u8 0)]]
/-- One of Go's own tables, pinned by name: the form's constant. -/
def laid_unicode_utf8_first : DataW Unit := Go.Pinned.utf8First

/-- 'paddocklaw02.PathsNormal': WHATEVER THE INPUT: true; the input reads as it did. -/
def pathsNormalSpec : ChangeSpec := { name := "pathsNormal", fn := fun _ => fun
  | [d1, d2] => { results := [.lit (.bool true)], args := [d1, d2] }
  | _ => none }
def pathsNormalRow : OpenClaim := { program := "ytdhchmonmbppmaadoor", sum := "96187e0a95b4a80f924f16f739d1f0717fb58a061a877e52af66cb623c05c785", func := "paddock/paddocklaw02.PathsNormal", spec := "pathsNormal", inPlace := ["internal/bytealg.IndexByteString", "internal/bytealg.IndexString"], unfollowed := true, recurses := true, named := ["internal/bytealg.MaxLen", "unicode/utf8.first", "unicode/utf8.acceptRanges"], apart := false, laid := [("unicode/utf8.acceptRanges", laid_unicode_utf8_acceptRanges), ("unicode/utf8.first", laid_unicode_utf8_first)] }
def PathsNormalSaid : Prop := pathsNormalRow.holds Tryd.pinned (OpenSpec.ofChange pathsNormalSpec)

/-- ITS FALSE NEIGHBOUR: 'it returns false'. Refute it at one input. -/
def pathsNormalWrong : ChangeSpec := { name := "pathsNormal", fn := fun _ => fun
  | [d1, d2] => { results := [.lit (.bool false)], args := [d1, d2] }
  | _ => none }
def PathsNormalWrongFalsely : Prop := pathsNormalRow.holds Tryd.pinned (OpenSpec.ofChange pathsNormalWrong)

/-- 'paddocklaw02.PathsOnce': WHATEVER THE INPUT: true; the input reads as it did. -/
def pathsOnceSpec : ChangeSpec := { name := "pathsOnce", fn := fun _ => fun
  | [d1, d2, d3] => { results := [.lit (.bool true)], args := [d1, d2, d3] }
  | _ => none }
def pathsOnceRow : OpenClaim := { program := "ytdhchmonmbppmaadoor", sum := "96187e0a95b4a80f924f16f739d1f0717fb58a061a877e52af66cb623c05c785", func := "paddock/paddocklaw02.PathsOnce", spec := "pathsOnce", inPlace := ["internal/bytealg.IndexByteString", "internal/bytealg.IndexString", "internal/abi.NoEscape", "internal/bytealg.MakeNoZero"], unfollowed := true, recurses := true, named := ["internal/bytealg.MaxLen", "unicode/utf8.first", "unicode/utf8.acceptRanges"], apart := false, laid := [("unicode/utf8.acceptRanges", laid_unicode_utf8_acceptRanges), ("unicode/utf8.first", laid_unicode_utf8_first)] }
def PathsOnceSaid : Prop := pathsOnceRow.holds Tryd.pinned (OpenSpec.ofChange pathsOnceSpec)

/-- ITS FALSE NEIGHBOUR: 'it returns false'. Refute it at one input. -/
def pathsOnceWrong : ChangeSpec := { name := "pathsOnce", fn := fun _ => fun
  | [d1, d2, d3] => { results := [.lit (.bool false)], args := [d1, d2, d3] }
  | _ => none }
def PathsOnceWrongFalsely : Prop := pathsOnceRow.holds Tryd.pinned (OpenSpec.ofChange pathsOnceWrong)

/-- 'paddocklaw02.PathsBehind': WHATEVER THE INPUT: true; the input reads as it did. -/
def pathsBehindSpec : ChangeSpec := { name := "pathsBehind", fn := fun _ => fun
  | [d1, d2, d3] => { results := [.lit (.bool true)], args := [d1, d2, d3] }
  | _ => none }
def pathsBehindRow : OpenClaim := { program := "ytdhchmonmbppmaadoor", sum := "96187e0a95b4a80f924f16f739d1f0717fb58a061a877e52af66cb623c05c785", func := "paddock/paddocklaw02.PathsBehind", spec := "pathsBehind", inPlace := ["internal/bytealg.IndexByteString", "internal/bytealg.IndexString", "internal/abi.NoEscape", "internal/bytealg.MakeNoZero"], unfollowed := true, recurses := true, named := ["internal/bytealg.MaxLen", "unicode/utf8.first", "unicode/utf8.acceptRanges"], apart := false, laid := [("unicode/utf8.acceptRanges", laid_unicode_utf8_acceptRanges), ("unicode/utf8.first", laid_unicode_utf8_first)] }
def PathsBehindSaid : Prop := pathsBehindRow.holds Tryd.pinned (OpenSpec.ofChange pathsBehindSpec)

/-- ITS FALSE NEIGHBOUR: 'it returns false'. Refute it at one input. -/
def pathsBehindWrong : ChangeSpec := { name := "pathsBehind", fn := fun _ => fun
  | [d1, d2, d3] => { results := [.lit (.bool false)], args := [d1, d2, d3] }
  | _ => none }
def PathsBehindWrongFalsely : Prop := pathsBehindRow.holds Tryd.pinned (OpenSpec.ofChange pathsBehindWrong)

/-- 'paddocklaw02.PathsThere': WHATEVER THE INPUT: true; the input reads as it did. -/
def pathsThereSpec : ChangeSpec := { name := "pathsThere", fn := fun _ => fun
  | [d1, d2] => { results := [.lit (.bool true)], args := [d1, d2] }
  | _ => none }
def pathsThereRow : OpenClaim := { program := "ytdhchmonmbppmaadoor", sum := "96187e0a95b4a80f924f16f739d1f0717fb58a061a877e52af66cb623c05c785", func := "paddock/paddocklaw02.PathsThere", spec := "pathsThere", inPlace := ["internal/bytealg.IndexByteString", "internal/bytealg.IndexString", "internal/abi.NoEscape", "internal/bytealg.MakeNoZero"], unfollowed := true, recurses := true, named := ["internal/bytealg.MaxLen", "unicode/utf8.first", "unicode/utf8.acceptRanges"], apart := false, laid := [("unicode/utf8.acceptRanges", laid_unicode_utf8_acceptRanges), ("unicode/utf8.first", laid_unicode_utf8_first)] }
def PathsThereSaid : Prop := pathsThereRow.holds Tryd.pinned (OpenSpec.ofChange pathsThereSpec)

/-- ITS FALSE NEIGHBOUR: 'it returns false'. Refute it at one input. -/
def pathsThereWrong : ChangeSpec := { name := "pathsThere", fn := fun _ => fun
  | [d1, d2] => { results := [.lit (.bool false)], args := [d1, d2] }
  | _ => none }
def PathsThereWrongFalsely : Prop := pathsThereRow.holds Tryd.pinned (OpenSpec.ofChange pathsThereWrong)

/-- 'paddocklaw02.PathsOrder': WHATEVER THE INPUT: true; the input reads as it did. -/
def pathsOrderSpec : ChangeSpec := { name := "pathsOrder", fn := fun _ => fun
  | [d1, d2, d3] => { results := [.lit (.bool true)], args := [d1, d2, d3] }
  | _ => none }
def pathsOrderRow : OpenClaim := { program := "ytdhchmonmbppmaadoor", sum := "96187e0a95b4a80f924f16f739d1f0717fb58a061a877e52af66cb623c05c785", func := "paddock/paddocklaw02.PathsOrder", spec := "pathsOrder", inPlace := ["internal/bytealg.IndexByteString", "internal/bytealg.IndexString", "internal/abi.NoEscape", "internal/bytealg.MakeNoZero", "internal/bytealg.abigen_runtime_cmpstring"], unfollowed := true, recurses := true, named := ["internal/bytealg.MaxLen", "unicode/utf8.first", "unicode/utf8.acceptRanges"], apart := false, laid := [("unicode/utf8.acceptRanges", laid_unicode_utf8_acceptRanges), ("unicode/utf8.first", laid_unicode_utf8_first)] }
def PathsOrderSaid : Prop := pathsOrderRow.holds Tryd.pinned (OpenSpec.ofChange pathsOrderSpec)

/-- ITS FALSE NEIGHBOUR: 'it returns false'. Refute it at one input. -/
def pathsOrderWrong : ChangeSpec := { name := "pathsOrder", fn := fun _ => fun
  | [d1, d2, d3] => { results := [.lit (.bool false)], args := [d1, d2, d3] }
  | _ => none }
def PathsOrderWrongFalsely : Prop := pathsOrderRow.holds Tryd.pinned (OpenSpec.ofChange pathsOrderWrong)

/-- 'paddocklaw02.PathsCovers': WHATEVER THE INPUT: true; the input reads as it did. -/
def pathsCoversSpec : ChangeSpec := { name := "pathsCovers", fn := fun _ => fun
  | [d1, d2, d3] => { results := [.lit (.bool true)], args := [d1, d2, d3] }
  | _ => none }
def pathsCoversRow : OpenClaim := { program := "ytdhchmonmbppmaadoor", sum := "96187e0a95b4a80f924f16f739d1f0717fb58a061a877e52af66cb623c05c785", func := "paddock/paddocklaw02.PathsCovers", spec := "pathsCovers", inPlace := ["internal/bytealg.abigen_runtime_cmpstring", "internal/bytealg.IndexByteString", "internal/bytealg.IndexString", "internal/abi.NoEscape", "internal/bytealg.MakeNoZero"], unfollowed := true, recurses := true, named := ["internal/bytealg.MaxLen", "unicode/utf8.first", "unicode/utf8.acceptRanges"], apart := false, laid := [("unicode/utf8.acceptRanges", laid_unicode_utf8_acceptRanges), ("unicode/utf8.first", laid_unicode_utf8_first)] }
def PathsCoversSaid : Prop := pathsCoversRow.holds Tryd.pinned (OpenSpec.ofChange pathsCoversSpec)

/-- ITS FALSE NEIGHBOUR: 'it returns false'. Refute it at one input. -/
def pathsCoversWrong : ChangeSpec := { name := "pathsCovers", fn := fun _ => fun
  | [d1, d2, d3] => { results := [.lit (.bool false)], args := [d1, d2, d3] }
  | _ => none }
def PathsCoversWrongFalsely : Prop := pathsCoversRow.holds Tryd.pinned (OpenSpec.ofChange pathsCoversWrong)

/-- 'paddocklaw02.PathsCover': WHATEVER THE INPUT: true; the input reads as it did. -/
def pathsCoverSpec : ChangeSpec := { name := "pathsCover", fn := fun _ => fun
  | [d1, d2] => { results := [.lit (.bool true)], args := [d1, d2] }
  | _ => none }
def pathsCoverRow : OpenClaim := { program := "ytdhchmonmbppmaadoor", sum := "96187e0a95b4a80f924f16f739d1f0717fb58a061a877e52af66cb623c05c785", func := "paddock/paddocklaw02.PathsCover", spec := "pathsCover", inPlace := ["internal/bytealg.IndexByteString", "internal/bytealg.IndexString", "internal/abi.NoEscape", "internal/bytealg.MakeNoZero", "internal/bytealg.abigen_runtime_cmpstring"], unfollowed := true, recurses := true, named := ["internal/bytealg.MaxLen", "unicode/utf8.first", "unicode/utf8.acceptRanges"], apart := false, laid := [("unicode/utf8.acceptRanges", laid_unicode_utf8_acceptRanges), ("unicode/utf8.first", laid_unicode_utf8_first)] }
def PathsCoverSaid : Prop := pathsCoverRow.holds Tryd.pinned (OpenSpec.ofChange pathsCoverSpec)

/-- ITS FALSE NEIGHBOUR: 'it returns false'. Refute it at one input. -/
def pathsCoverWrong : ChangeSpec := { name := "pathsCover", fn := fun _ => fun
  | [d1, d2] => { results := [.lit (.bool false)], args := [d1, d2] }
  | _ => none }
def PathsCoverWrongFalsely : Prop := pathsCoverRow.holds Tryd.pinned (OpenSpec.ofChange pathsCoverWrong)

/-- 'paddocklaw02.PathsOwn': WHATEVER THE INPUT: true; the input reads as it did. -/
def pathsOwnSpec : ChangeSpec := { name := "pathsOwn", fn := fun _ => fun
  | [d1, d2, d3] => { results := [.lit (.bool true)], args := [d1, d2, d3] }
  | _ => none }
def pathsOwnRow : OpenClaim := { program := "ytdhchmonmbppmaadoor", sum := "96187e0a95b4a80f924f16f739d1f0717fb58a061a877e52af66cb623c05c785", func := "paddock/paddocklaw02.PathsOwn", spec := "pathsOwn", inPlace := ["internal/bytealg.IndexByteString", "internal/bytealg.IndexString", "internal/abi.NoEscape", "internal/bytealg.MakeNoZero", "internal/bytealg.abigen_runtime_cmpstring"], unfollowed := true, recurses := true, named := ["internal/bytealg.MaxLen", "unicode/utf8.first", "unicode/utf8.acceptRanges"], apart := false, laid := [("unicode/utf8.acceptRanges", laid_unicode_utf8_acceptRanges), ("unicode/utf8.first", laid_unicode_utf8_first)] }
def PathsOwnSaid : Prop := pathsOwnRow.holds Tryd.pinned (OpenSpec.ofChange pathsOwnSpec)

/-- ITS FALSE NEIGHBOUR: 'it returns false'. Refute it at one input. -/
def pathsOwnWrong : ChangeSpec := { name := "pathsOwn", fn := fun _ => fun
  | [d1, d2, d3] => { results := [.lit (.bool false)], args := [d1, d2, d3] }
  | _ => none }
def PathsOwnWrongFalsely : Prop := pathsOwnRow.holds Tryd.pinned (OpenSpec.ofChange pathsOwnWrong)

/- THE SECOND FORM. 'bulk': how many values and letters a reading holds, each counted each time it is reached (what is shared counts as often as it is met; a slice's spare places count too). A statement '..UptoSaid' is the law's where the arguments, and the package variables that the reading takes, are together of bulk at most 1048576: NARROWER than '..Said'. Prove '..Said' where nothing that the law and all that it calls make is longer than what came in: it says more and counts as full. Else prove '..UptoSaid'. A law counts once. -/
mutual
def uptoBulk {H : Type} : DataW H → Nat
  | .lit (.string bytes) => bytes.length + 1
  | .lit _ => 1
  | .nil => 1
  | .ptr d => uptoBulk d + 1
  | .slice elems spare => uptoBulkAll elems + uptoBulkAll spare + 1
  | .agg parts => uptoBulkAll parts + 1
  | .iface _ d => uptoBulk d + 1
  | .map entries => uptoBulkEntries entries + 1
  | .held _ => 1
def uptoBulkAll {H : Type} : List (DataW H) → Nat
  | [] => 0
  | d :: r => uptoBulk d + uptoBulkAll r
def uptoBulkEntries {H : Type} : List (Lit × DataW H) → Nat
  | [] => 0
  | x :: r => uptoBulkEntry x + uptoBulkEntries r
def uptoBulkEntry {H : Type} : Lit × DataW H → Nat
  | (.string bytes, d) => bytes.length + uptoBulk d + 1
  | (_, d) => uptoBulk d + 1
 end
def uptoSmall : (H : Type) → List (DataW H) → Bool := fun _ ds => decide (uptoBulkAll ds ≤ 1048576)
def OpenSpec.upto (s : _root_.Go.ChangeSpec) : _root_.Go.OpenSpec := { _root_.Go.OpenSpec.ofChange s with cond := some uptoSmall }

/-- 'paddocklaw02.PathsNormal', WHERE WHAT IT READS IS OF BULK AT MOST 1048576: true; the input reads as it did. -/
def pathsNormalUptoRow : OpenClaim := { program := "ytdhchmonmbppmaadoor", sum := "96187e0a95b4a80f924f16f739d1f0717fb58a061a877e52af66cb623c05c785", func := "paddock/paddocklaw02.PathsNormal", spec := "pathsNormal", inPlace := ["internal/bytealg.IndexByteString", "internal/bytealg.IndexString"], unfollowed := true, recurses := true, named := ["internal/bytealg.MaxLen", "unicode/utf8.first", "unicode/utf8.acceptRanges"], apart := false, laid := [("unicode/utf8.acceptRanges", laid_unicode_utf8_acceptRanges), ("unicode/utf8.first", laid_unicode_utf8_first)], narrowed := true }
def PathsNormalUptoSaid : Prop := pathsNormalUptoRow.holds Tryd.pinned (OpenSpec.upto pathsNormalSpec)

/-- 'paddocklaw02.PathsOnce', WHERE WHAT IT READS IS OF BULK AT MOST 1048576: true; the input reads as it did. -/
def pathsOnceUptoRow : OpenClaim := { program := "ytdhchmonmbppmaadoor", sum := "96187e0a95b4a80f924f16f739d1f0717fb58a061a877e52af66cb623c05c785", func := "paddock/paddocklaw02.PathsOnce", spec := "pathsOnce", inPlace := ["internal/bytealg.IndexByteString", "internal/bytealg.IndexString", "internal/abi.NoEscape", "internal/bytealg.MakeNoZero"], unfollowed := true, recurses := true, named := ["internal/bytealg.MaxLen", "unicode/utf8.first", "unicode/utf8.acceptRanges"], apart := false, laid := [("unicode/utf8.acceptRanges", laid_unicode_utf8_acceptRanges), ("unicode/utf8.first", laid_unicode_utf8_first)], narrowed := true }
def PathsOnceUptoSaid : Prop := pathsOnceUptoRow.holds Tryd.pinned (OpenSpec.upto pathsOnceSpec)

/-- 'paddocklaw02.PathsBehind', WHERE WHAT IT READS IS OF BULK AT MOST 1048576: true; the input reads as it did. -/
def pathsBehindUptoRow : OpenClaim := { program := "ytdhchmonmbppmaadoor", sum := "96187e0a95b4a80f924f16f739d1f0717fb58a061a877e52af66cb623c05c785", func := "paddock/paddocklaw02.PathsBehind", spec := "pathsBehind", inPlace := ["internal/bytealg.IndexByteString", "internal/bytealg.IndexString", "internal/abi.NoEscape", "internal/bytealg.MakeNoZero"], unfollowed := true, recurses := true, named := ["internal/bytealg.MaxLen", "unicode/utf8.first", "unicode/utf8.acceptRanges"], apart := false, laid := [("unicode/utf8.acceptRanges", laid_unicode_utf8_acceptRanges), ("unicode/utf8.first", laid_unicode_utf8_first)], narrowed := true }
def PathsBehindUptoSaid : Prop := pathsBehindUptoRow.holds Tryd.pinned (OpenSpec.upto pathsBehindSpec)

/-- 'paddocklaw02.PathsThere', WHERE WHAT IT READS IS OF BULK AT MOST 1048576: true; the input reads as it did. -/
def pathsThereUptoRow : OpenClaim := { program := "ytdhchmonmbppmaadoor", sum := "96187e0a95b4a80f924f16f739d1f0717fb58a061a877e52af66cb623c05c785", func := "paddock/paddocklaw02.PathsThere", spec := "pathsThere", inPlace := ["internal/bytealg.IndexByteString", "internal/bytealg.IndexString", "internal/abi.NoEscape", "internal/bytealg.MakeNoZero"], unfollowed := true, recurses := true, named := ["internal/bytealg.MaxLen", "unicode/utf8.first", "unicode/utf8.acceptRanges"], apart := false, laid := [("unicode/utf8.acceptRanges", laid_unicode_utf8_acceptRanges), ("unicode/utf8.first", laid_unicode_utf8_first)], narrowed := true }
def PathsThereUptoSaid : Prop := pathsThereUptoRow.holds Tryd.pinned (OpenSpec.upto pathsThereSpec)

/-- 'paddocklaw02.PathsOrder', WHERE WHAT IT READS IS OF BULK AT MOST 1048576: true; the input reads as it did. -/
def pathsOrderUptoRow : OpenClaim := { program := "ytdhchmonmbppmaadoor", sum := "96187e0a95b4a80f924f16f739d1f0717fb58a061a877e52af66cb623c05c785", func := "paddock/paddocklaw02.PathsOrder", spec := "pathsOrder", inPlace := ["internal/bytealg.IndexByteString", "internal/bytealg.IndexString", "internal/abi.NoEscape", "internal/bytealg.MakeNoZero", "internal/bytealg.abigen_runtime_cmpstring"], unfollowed := true, recurses := true, named := ["internal/bytealg.MaxLen", "unicode/utf8.first", "unicode/utf8.acceptRanges"], apart := false, laid := [("unicode/utf8.acceptRanges", laid_unicode_utf8_acceptRanges), ("unicode/utf8.first", laid_unicode_utf8_first)], narrowed := true }
def PathsOrderUptoSaid : Prop := pathsOrderUptoRow.holds Tryd.pinned (OpenSpec.upto pathsOrderSpec)

/-- 'paddocklaw02.PathsCovers', WHERE WHAT IT READS IS OF BULK AT MOST 1048576: true; the input reads as it did. -/
def pathsCoversUptoRow : OpenClaim := { program := "ytdhchmonmbppmaadoor", sum := "96187e0a95b4a80f924f16f739d1f0717fb58a061a877e52af66cb623c05c785", func := "paddock/paddocklaw02.PathsCovers", spec := "pathsCovers", inPlace := ["internal/bytealg.abigen_runtime_cmpstring", "internal/bytealg.IndexByteString", "internal/bytealg.IndexString", "internal/abi.NoEscape", "internal/bytealg.MakeNoZero"], unfollowed := true, recurses := true, named := ["internal/bytealg.MaxLen", "unicode/utf8.first", "unicode/utf8.acceptRanges"], apart := false, laid := [("unicode/utf8.acceptRanges", laid_unicode_utf8_acceptRanges), ("unicode/utf8.first", laid_unicode_utf8_first)], narrowed := true }
def PathsCoversUptoSaid : Prop := pathsCoversUptoRow.holds Tryd.pinned (OpenSpec.upto pathsCoversSpec)

/-- 'paddocklaw02.PathsCover', WHERE WHAT IT READS IS OF BULK AT MOST 1048576: true; the input reads as it did. -/
def pathsCoverUptoRow : OpenClaim := { program := "ytdhchmonmbppmaadoor", sum := "96187e0a95b4a80f924f16f739d1f0717fb58a061a877e52af66cb623c05c785", func := "paddock/paddocklaw02.PathsCover", spec := "pathsCover", inPlace := ["internal/bytealg.IndexByteString", "internal/bytealg.IndexString", "internal/abi.NoEscape", "internal/bytealg.MakeNoZero", "internal/bytealg.abigen_runtime_cmpstring"], unfollowed := true, recurses := true, named := ["internal/bytealg.MaxLen", "unicode/utf8.first", "unicode/utf8.acceptRanges"], apart := false, laid := [("unicode/utf8.acceptRanges", laid_unicode_utf8_acceptRanges), ("unicode/utf8.first", laid_unicode_utf8_first)], narrowed := true }
def PathsCoverUptoSaid : Prop := pathsCoverUptoRow.holds Tryd.pinned (OpenSpec.upto pathsCoverSpec)

/-- 'paddocklaw02.PathsOwn', WHERE WHAT IT READS IS OF BULK AT MOST 1048576: true; the input reads as it did. -/
def pathsOwnUptoRow : OpenClaim := { program := "ytdhchmonmbppmaadoor", sum := "96187e0a95b4a80f924f16f739d1f0717fb58a061a877e52af66cb623c05c785", func := "paddock/paddocklaw02.PathsOwn", spec := "pathsOwn", inPlace := ["internal/bytealg.IndexByteString", "internal/bytealg.IndexString", "internal/abi.NoEscape", "internal/bytealg.MakeNoZero", "internal/bytealg.abigen_runtime_cmpstring"], unfollowed := true, recurses := true, named := ["internal/bytealg.MaxLen", "unicode/utf8.first", "unicode/utf8.acceptRanges"], apart := false, laid := [("unicode/utf8.acceptRanges", laid_unicode_utf8_acceptRanges), ("unicode/utf8.first", laid_unicode_utf8_first)], narrowed := true }
def PathsOwnUptoSaid : Prop := pathsOwnUptoRow.holds Tryd.pinned (OpenSpec.upto pathsOwnSpec)

end Rows
end Go.Proofs.YtdhchmonmbppmaaDoor
