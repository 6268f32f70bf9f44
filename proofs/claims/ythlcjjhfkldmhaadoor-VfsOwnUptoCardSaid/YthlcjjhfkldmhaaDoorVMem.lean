/- Traces of calls in memory. -/
import Derived.Test.YthlcjjhfkldmhaaDoorVSpec
import Derived.Test.YthlcjjhfkldmhaaDoorVHd
set_option linter.unusedVariables false
set_option linter.unusedSimpArgs false
namespace Go.Proofs.YthlcjjhfkldmhaaDoor.G
open Go.RowKit Go.Lib Go.Proofs.YthlcjjhfkldmhaaDoorW.PrintWords Go.Proofs.YthlcjjhfkldmhaaDoorW.PrintLast
set_option linter.unusedVariables false

def CallK : Kd Call := Kd.iso (Kd.pair (Kd.int .u8) (Kd.pair (Kd.slice 9 Kd.string) (Kd.pair (Kd.slice 9 Kd.string) (Kd.int .i64)))) (fun x : Call => (x.kind, x.path, x.dest, x.why))
theorem call_open {w : World} {x : Call} {cs : List Value} (h : CallK.K w x cs) : ∃ A c B d, cs = [.int .u8 x.kind, .slice A x.path.length c, .slice B x.dest.length d, .int .i64 x.why] ∧ x.path.length ≤ c ∧ Kd.C Kd.string w A x.path.length x.path ∧ x.dest.length ≤ d ∧ Kd.C Kd.string w B x.dest.length x.dest := by
  obtain ⟨_, _, rfl, rfl, ⟨_, _, rfl, ⟨A, c, rfl, l, g⟩, ⟨_, _, rfl, ⟨B, d, rfl, m, k⟩, rfl⟩⟩⟩ := h
  exact ⟨A, c, B, d, rfl, l, g, m, k⟩
theorem call_mkM (w : World) (base : Nat) (ok : Nat → Prop) (x : Call) {v u : Value} (g : Kd.R Kd.string 9 w base ok v x.path) (k : Kd.R Kd.string 9 w base ok u x.dest) : CallK.M w base ok x [.int .u8 x.kind, v, u, .int .i64 x.why] :=
  ⟨[.int .u8 x.kind], [v, u, .int .i64 x.why], rfl, rfl, ⟨[v], [u, .int .i64 x.why], rfl, ⟨v, rfl, g⟩, ⟨[u], [.int .i64 x.why], rfl, ⟨u, rfl, k⟩, rfl⟩⟩⟩
end Go.Proofs.YthlcjjhfkldmhaaDoor.G
