/- vfs.Real. Printed by wip/tools/gen_vreal.py. -/
import Derived.Test.YthlcjjhfkldmhaaDoorVWalk
import Derived.Test.YthlcjjhfkldmhaaDoorTRight
set_option linter.unusedVariables false
set_option linter.unusedSimpArgs false
namespace Go.Proofs.YthlcjjhfkldmhaaDoor.G
open Go.RowKit Go.Lib Go.Proofs.YthlcjjhfkldmhaaDoorW.PrintWords Go.Proofs.YthlcjjhfkldmhaaDoorW.PrintLast
set_option linter.unusedVariables false
set_option linter.unusedSimpArgs false

theorem check_why (t : File) : (checkR t).1 = 0 ∨ (checkR t).1 = 30 := by
  unfold checkR
  split
  · cases wrongN t.bulk t [] with
    | none => exact .inl rfl
    | some b => exact .inr rfl
  · exact .inr rfl
end Go.Proofs.YthlcjjhfkldmhaaDoor.G
