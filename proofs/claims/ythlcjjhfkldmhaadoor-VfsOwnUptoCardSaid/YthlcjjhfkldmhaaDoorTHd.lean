/- Facts of memory that all later worlds keep, in one bundle. -/
import Derived.Test.YthlcjjhfkldmhaaDoorIdx
import Derived.Test.YthlcjjhfkldmhaaDoorQWords
set_option linter.unusedVariables false
set_option linter.unusedSimpArgs false
namespace Go.Proofs.YthlcjjhfkldmhaaDoor.G
open Go.RowKit Go.Lib Go.Proofs.YthlcjjhfkldmhaaDoorW.PrintWords
set_option linter.unusedVariables false
def Hd (P : World → Prop) (w : World) : Prop := ∀ W, Below w.heap.size w W → P W
theorem Hd.now {P : World → Prop} {w : World} (h : Hd P w) : P w := h w (Below.refl _ _)
theorem Hd.mv {P : World → Prop} {w w' : World} (h : Hd P w) (hb : Below w.heap.size w w') : Hd P w' := fun W hW => h W (hb.trans (hW.mono hb.size))
theorem Hd.and {P Q : World → Prop} {w : World} (h : Hd P w) (k : Hd Q w) : Hd (fun W => Q W ∧ P W) w := fun W hW => ⟨k W hW, h W hW⟩
theorem Hd.box {w : World} {g : Nat} {o : Obj} (h : w.heap[g]? = some o) : Hd (fun W => W.heap[g]? = some o) w := fun W hW => (hW.block g (by
  rcases Nat.lt_or_ge g w.heap.size with hg | hg
  · exact hg
  · rw [Array.getElem?_eq_none hg] at h; cases h)).trans h
theorem Hd.reads {α : Type} {d : Kd α} {w : World} {A : Option Addr} {n : Nat} {xs : List α} (h : d.C w A n xs) : Hd (fun W => d.C W A n xs) w := fun W hW => Kd.C_below h hW
theorem Hd.rows {α : Type} {d : Kd α} {e : Nat} {w : World} {base : Nat} {ok : Nat → Prop} {v : Value} {xs : List α} (h : d.R e w base ok v xs) : Hd (fun W => d.R e W base ok v xs) w := fun W hW => Kd.R_below h hW
theorem Hd.base {B : Nat} {a w : World} (h : Below B a w) (hB : B ≤ w.heap.size) : Hd (fun W => Below B a W) w := fun W hW => h.trans (hW.mono hB)
end Go.Proofs.YthlcjjhfkldmhaaDoor.G
