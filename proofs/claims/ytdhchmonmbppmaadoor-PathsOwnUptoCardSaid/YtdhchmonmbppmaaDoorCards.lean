/-
  DERIVED. GIVEN WITH THE SEED: THE CARDS: each row of YtdhchmonmbppmaaDoorRows.lean that lists a variable, with what it lists TIED to the program's text (the seventh form; the later family's looks); each row that meets fmt, with fmt's text TOLD by the authors' own Lean function (tested against real Go, not proved from fmt's source: count such statements apart). THE CARD IS WHAT COUNTS. Prove the row's statement (the work); the ties are given (YtdhchmonmbppmaaDoorTie.lean); close each card by the builder's one call (the guide's Derived/Test/ToyasCard.lean, 'card_holds'). Laid BY PROGRAM, IN A SANDBOX (cutbox-door.mjs). By AI agents, Wed Nov 11 2026. No macro, syntax, notation, axiom, sorry.
-/
import Derived.Test.YtdhchmonmbppmaaDoorRows
import GoSem.ClaimSeven
namespace Go.Proofs.YtdhchmonmbppmaaDoor
namespace Rows

/-- THE TIED CARD OF 'paddocklaw02.PathsNormal'. -/
def pathsNormalCard : Claim7 := { stood := { row := pathsNormalRow, standIns := [], harness := (true, "0755135d7dac2aff6f99c044161e0d111ba92ea44d122811d8b13bcc84fdb748"), looks := false }, kinds := [], alts := [], laidByText := true, laidKinds := [.data, .pinned], laidTests := true, laidLooks := .later }
def PathsNormalCardSaid : Prop := Claim7.holds Tryd.pinned (.plain (OpenSpec.ofChange pathsNormalSpec)) pathsNormalCard

/-- THE TIED CARD OF 'paddocklaw02.PathsOnce'. -/
def pathsOnceCard : Claim7 := { stood := { row := pathsOnceRow, standIns := [], harness := (true, "0755135d7dac2aff6f99c044161e0d111ba92ea44d122811d8b13bcc84fdb748"), looks := false }, kinds := [], alts := [], laidByText := true, laidKinds := [.data, .pinned], laidTests := true, laidLooks := .later }
def PathsOnceCardSaid : Prop := Claim7.holds Tryd.pinned (.plain (OpenSpec.ofChange pathsOnceSpec)) pathsOnceCard

/-- THE TIED CARD OF 'paddocklaw02.PathsBehind'. -/
def pathsBehindCard : Claim7 := { stood := { row := pathsBehindRow, standIns := [], harness := (true, "0755135d7dac2aff6f99c044161e0d111ba92ea44d122811d8b13bcc84fdb748"), looks := false }, kinds := [], alts := [], laidByText := true, laidKinds := [.data, .pinned], laidTests := true, laidLooks := .later }
def PathsBehindCardSaid : Prop := Claim7.holds Tryd.pinned (.plain (OpenSpec.ofChange pathsBehindSpec)) pathsBehindCard

/-- THE TIED CARD OF 'paddocklaw02.PathsThere'. -/
def pathsThereCard : Claim7 := { stood := { row := pathsThereRow, standIns := [], harness := (true, "0755135d7dac2aff6f99c044161e0d111ba92ea44d122811d8b13bcc84fdb748"), looks := false }, kinds := [], alts := [], laidByText := true, laidKinds := [.data, .pinned], laidTests := true, laidLooks := .later }
def PathsThereCardSaid : Prop := Claim7.holds Tryd.pinned (.plain (OpenSpec.ofChange pathsThereSpec)) pathsThereCard

/-- THE TIED CARD OF 'paddocklaw02.PathsOrder'. -/
def pathsOrderCard : Claim7 := { stood := { row := pathsOrderRow, standIns := [], harness := (true, "0755135d7dac2aff6f99c044161e0d111ba92ea44d122811d8b13bcc84fdb748"), looks := false }, kinds := [], alts := [], laidByText := true, laidKinds := [.data, .pinned], laidTests := true, laidLooks := .later }
def PathsOrderCardSaid : Prop := Claim7.holds Tryd.pinned (.plain (OpenSpec.ofChange pathsOrderSpec)) pathsOrderCard

/-- THE TIED CARD OF 'paddocklaw02.PathsCovers'. -/
def pathsCoversCard : Claim7 := { stood := { row := pathsCoversRow, standIns := [], harness := (true, "0755135d7dac2aff6f99c044161e0d111ba92ea44d122811d8b13bcc84fdb748"), looks := false }, kinds := [], alts := [], laidByText := true, laidKinds := [.data, .pinned], laidTests := true, laidLooks := .later }
def PathsCoversCardSaid : Prop := Claim7.holds Tryd.pinned (.plain (OpenSpec.ofChange pathsCoversSpec)) pathsCoversCard

/-- THE TIED CARD OF 'paddocklaw02.PathsCover'. -/
def pathsCoverCard : Claim7 := { stood := { row := pathsCoverRow, standIns := [], harness := (true, "0755135d7dac2aff6f99c044161e0d111ba92ea44d122811d8b13bcc84fdb748"), looks := false }, kinds := [], alts := [], laidByText := true, laidKinds := [.data, .pinned], laidTests := true, laidLooks := .later }
def PathsCoverCardSaid : Prop := Claim7.holds Tryd.pinned (.plain (OpenSpec.ofChange pathsCoverSpec)) pathsCoverCard

/-- THE TIED CARD OF 'paddocklaw02.PathsOwn'. -/
def pathsOwnCard : Claim7 := { stood := { row := pathsOwnRow, standIns := [], harness := (true, "0755135d7dac2aff6f99c044161e0d111ba92ea44d122811d8b13bcc84fdb748"), looks := false }, kinds := [], alts := [], laidByText := true, laidKinds := [.data, .pinned], laidTests := true, laidLooks := .later }
def PathsOwnCardSaid : Prop := Claim7.holds Tryd.pinned (.plain (OpenSpec.ofChange pathsOwnSpec)) pathsOwnCard

/-- THE SECOND FORM's CARD OF 'paddocklaw02.PathsNormal'. -/
def pathsNormalUptoCard : Claim7 := { stood := { row := pathsNormalUptoRow, standIns := [], harness := (true, "0755135d7dac2aff6f99c044161e0d111ba92ea44d122811d8b13bcc84fdb748"), looks := false }, kinds := [], alts := [], laidByText := true, laidKinds := [.data, .pinned], laidTests := true, laidLooks := .later }
def PathsNormalUptoCardSaid : Prop := Claim7.holds Tryd.pinned (.plain (OpenSpec.upto pathsNormalSpec)) pathsNormalUptoCard

/-- THE SECOND FORM's CARD OF 'paddocklaw02.PathsOnce'. -/
def pathsOnceUptoCard : Claim7 := { stood := { row := pathsOnceUptoRow, standIns := [], harness := (true, "0755135d7dac2aff6f99c044161e0d111ba92ea44d122811d8b13bcc84fdb748"), looks := false }, kinds := [], alts := [], laidByText := true, laidKinds := [.data, .pinned], laidTests := true, laidLooks := .later }
def PathsOnceUptoCardSaid : Prop := Claim7.holds Tryd.pinned (.plain (OpenSpec.upto pathsOnceSpec)) pathsOnceUptoCard

/-- THE SECOND FORM's CARD OF 'paddocklaw02.PathsBehind'. -/
def pathsBehindUptoCard : Claim7 := { stood := { row := pathsBehindUptoRow, standIns := [], harness := (true, "0755135d7dac2aff6f99c044161e0d111ba92ea44d122811d8b13bcc84fdb748"), looks := false }, kinds := [], alts := [], laidByText := true, laidKinds := [.data, .pinned], laidTests := true, laidLooks := .later }
def PathsBehindUptoCardSaid : Prop := Claim7.holds Tryd.pinned (.plain (OpenSpec.upto pathsBehindSpec)) pathsBehindUptoCard

/-- THE SECOND FORM's CARD OF 'paddocklaw02.PathsThere'. -/
def pathsThereUptoCard : Claim7 := { stood := { row := pathsThereUptoRow, standIns := [], harness := (true, "0755135d7dac2aff6f99c044161e0d111ba92ea44d122811d8b13bcc84fdb748"), looks := false }, kinds := [], alts := [], laidByText := true, laidKinds := [.data, .pinned], laidTests := true, laidLooks := .later }
def PathsThereUptoCardSaid : Prop := Claim7.holds Tryd.pinned (.plain (OpenSpec.upto pathsThereSpec)) pathsThereUptoCard

/-- THE SECOND FORM's CARD OF 'paddocklaw02.PathsOrder'. -/
def pathsOrderUptoCard : Claim7 := { stood := { row := pathsOrderUptoRow, standIns := [], harness := (true, "0755135d7dac2aff6f99c044161e0d111ba92ea44d122811d8b13bcc84fdb748"), looks := false }, kinds := [], alts := [], laidByText := true, laidKinds := [.data, .pinned], laidTests := true, laidLooks := .later }
def PathsOrderUptoCardSaid : Prop := Claim7.holds Tryd.pinned (.plain (OpenSpec.upto pathsOrderSpec)) pathsOrderUptoCard

/-- THE SECOND FORM's CARD OF 'paddocklaw02.PathsCovers'. -/
def pathsCoversUptoCard : Claim7 := { stood := { row := pathsCoversUptoRow, standIns := [], harness := (true, "0755135d7dac2aff6f99c044161e0d111ba92ea44d122811d8b13bcc84fdb748"), looks := false }, kinds := [], alts := [], laidByText := true, laidKinds := [.data, .pinned], laidTests := true, laidLooks := .later }
def PathsCoversUptoCardSaid : Prop := Claim7.holds Tryd.pinned (.plain (OpenSpec.upto pathsCoversSpec)) pathsCoversUptoCard

/-- THE SECOND FORM's CARD OF 'paddocklaw02.PathsCover'. -/
def pathsCoverUptoCard : Claim7 := { stood := { row := pathsCoverUptoRow, standIns := [], harness := (true, "0755135d7dac2aff6f99c044161e0d111ba92ea44d122811d8b13bcc84fdb748"), looks := false }, kinds := [], alts := [], laidByText := true, laidKinds := [.data, .pinned], laidTests := true, laidLooks := .later }
def PathsCoverUptoCardSaid : Prop := Claim7.holds Tryd.pinned (.plain (OpenSpec.upto pathsCoverSpec)) pathsCoverUptoCard

/-- THE SECOND FORM's CARD OF 'paddocklaw02.PathsOwn'. -/
def pathsOwnUptoCard : Claim7 := { stood := { row := pathsOwnUptoRow, standIns := [], harness := (true, "0755135d7dac2aff6f99c044161e0d111ba92ea44d122811d8b13bcc84fdb748"), looks := false }, kinds := [], alts := [], laidByText := true, laidKinds := [.data, .pinned], laidTests := true, laidLooks := .later }
def PathsOwnUptoCardSaid : Prop := Claim7.holds Tryd.pinned (.plain (OpenSpec.upto pathsOwnSpec)) pathsOwnUptoCard
end Rows
end Go.Proofs.YtdhchmonmbppmaaDoor
