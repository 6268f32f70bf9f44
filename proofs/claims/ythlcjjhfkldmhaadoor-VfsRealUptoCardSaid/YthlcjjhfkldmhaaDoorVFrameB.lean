/- A bool among a row's arguments. -/
import Derived.Test.YthlcjjhfkldmhaaDoorTFrame
import Derived.Deep.Slices
set_option linter.unusedVariables false
set_option linter.unusedSimpArgs false
namespace Go.Proofs.YthlcjjhfkldmhaaDoor.G
open Go.Deep Go.ChangeShapes Go.WideShapes Go.ChangeAt Go.RowKit Go.Lib Go.Proofs.YthlcjjhfkldmhaaDoorW.PrintWords Go.Proofs.YthlcjjhfkldmhaaDoorW.PrintLast
set_option linter.unusedVariables false
set_option linter.unusedSimpArgs false

theorem open_boolV {H : Type} {enc : TypeId × Value → H} {P : Program} {W : World} {base : Nat} {t : TypeId} {v : Value} {d : DataW H} {ps : List MemPlace}
    (ht : P.underlying t = some .bool) (hv : Value.okWide P W .any base t v) (h : DataW.Trod enc P W 0 (fun _ => true) true t v d ps) :
    ∃ b : Bool, v = .bool b := by
  cases v with
  | bool b => exact ⟨b, rfl⟩
  | _ =>
    obtain ⟨fuel, hf⟩ := h
    obtain ⟨s2, h2, _⟩ := DataW.trod_bool ht hf
    first
    | (simp [Value.cells] at h2; done)
    | (simp [Value.okWide, ht, Cell.okWide, Cell.ok] at hv; done)
end Go.Proofs.YthlcjjhfkldmhaaDoor.G
