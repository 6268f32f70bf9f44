/- A file at a path, put and read: plain. -/
import Derived.Test.YthlcjjhfkldmhaaDoorTReadA
set_option linter.unusedVariables false
set_option linter.unusedSimpArgs false
namespace Go.Proofs.YthlcjjhfkldmhaaDoor.G
open Go.RowKit Go.Lib Go.Proofs.YthlcjjhfkldmhaaDoorW.PrintWords Go.Proofs.YthlcjjhfkldmhaaDoorW.PrintLast
set_option linter.unusedVariables false

theorem goP_full {f : File} {n : ByteArray} {q : List ByteArray} {d : File} {k : Int} (h : goP f (n :: q) = (k, some d)) : ∃ x, f.kind = 1 ∧ f.files[lowB f.files n]? = some x ∧ x.name = n ∧ goP x q = (k, some d) := by
  rw [goP] at h
  split at h
  · rename_i hk
    split at h
    · rename_i x hx
      split at h
      · rename_i he
        exact ⟨x, hk, hx, toList_inj.1 (eq_of_beq he), h⟩
      · cases h
    · cases h
  · cases h
theorem goP_mk {f : File} {n : ByteArray} {q : List ByteArray} {x : File} (hk : f.kind = 1) (hx : f.files[lowB f.files n]? = some x) (hn : x.name = n) : goP f (n :: q) = goP x q := by
  rw [goP, if_pos hk, hx]
  simp only
  rw [if_pos (by rw [hn]; simp)]
end Go.Proofs.YthlcjjhfkldmhaaDoor.G
