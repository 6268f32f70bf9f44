/- A file system in memory. -/
import Derived.Test.YthlcjjhfkldmhaaDoorVWalk
import Derived.Test.YthlcjjhfkldmhaaDoorTRight
import Derived.Test.YthlcjjhfkldmhaaDoorVMem
import Derived.Test.YthlcjjhfkldmhaaDoorVFaults
import Derived.Test.YthlcjjhfkldmhaaDoorVHd
set_option linter.unusedVariables false
set_option linter.unusedSimpArgs false
section
namespace Go.Proofs.YthlcjjhfkldmhaaDoor.G
open Go.RowKit Go.Lib Go.Proofs.YthlcjjhfkldmhaaDoorW.PrintWords Go.Proofs.YthlcjjhfkldmhaaDoorW.PrintLast
set_option linter.unusedVariables false
set_option linter.unusedSimpArgs false

theorem check_why (t : File) : (checkR t).1 = 0 ∨ (checkR t).1 = 30 := by
  unfold checkR
  split
  · cases wrongN t.bulk t [] with
    | none => exact .inl rfl
    | some b => exact .inr rfl
  · exact .inr rfl
end Go.Proofs.YthlcjjhfkldmhaaDoor.G
end
section
namespace Go.Proofs.YthlcjjhfkldmhaaDoor.G
open Go.RowKit Go.Lib Go.Proofs.YthlcjjhfkldmhaaDoorW.PrintWords Go.Proofs.YthlcjjhfkldmhaaDoorW.PrintLast
set_option linter.unusedVariables false
set_option linter.unusedSimpArgs false

/-- The cells of a file system. -/
def fsCells (t : File) (A : Option Addr) (c : Nat) (v : Value) (m : Nat) : Array Value := #[.string t.name, .int .u8 t.kind, .string t.data, .slice A t.files.length c, v, .map (some m)]
/-- The file system f lies in block g; what it leads to lies in O; tb is its trace's block. -/
def FsAt (w : World) (g : Nat) (O : Nat → Prop) (tb : Option Nat) (f : FsV) : Prop := ∃ (A : Option Addr) (c : Nat) (v : Value) (m lo hi : Nat),
  w.heap[g]? = some (.cells (fsCells f.tree A c v m) 86 (0, 0)) ∧ f.tree.files.length ≤ c ∧ Iv lo hi w (fun W => FileK.C W A f.tree.files.length f.tree.files) ∧ (∀ k, lo ≤ k → k < hi → O k ∧ k ≠ g ∧ tb ≠ some k) ∧
  CallK.R 59 w 0 O v f.trace ∧ v.ownBlock = tb ∧ Faulted w m f.faults ∧ O m ∧ ∀ k, O k → k < w.heap.size
theorem FsAt.keep {w w' : World} {g : Nat} {O : Nat → Prop} {tb : Option Nat} {f : FsV} (h : FsAt w g O tb f) (hk : ∀ k, k = g ∨ O k → w'.heap[k]? = w.heap[k]?) (hs : w.heap.size ≤ w'.heap.size) : FsAt w' g O tb f := by
  obtain ⟨A, c, v, m, lo, hi, h1, h2, h3, h4, h5, h6, h7, h8, h9⟩ := h
  exact ⟨A, c, v, m, lo, hi, (hk g (.inl rfl)).trans h1, h2, h3.mv fun k a b => hk k (.inr (h4 k a b).1), h4, Kd.R_move h5 fun k a => hk k (.inr a), h6, h7.mv (hk m (.inr h8)), h8, fun k a => Nat.lt_of_lt_of_le (h9 k a) hs⟩
theorem FsAt.lt {w : World} {g : Nat} {O : Nat → Prop} {tb : Option Nat} {f : FsV} (h : FsAt w g O tb f) : g < w.heap.size := by
  obtain ⟨A, c, v, m, lo, hi, h1, _⟩ := h
  exact blk_lt h1
theorem FsAt.below {w w' : World} {g : Nat} {O : Nat → Prop} {tb : Option Nat} {f : FsV} (h : FsAt w g O tb f) (hb : Below w.heap.size w w') : FsAt w' g O tb f := by
  have hl := h.lt
  have h9 : ∀ k, O k → k < w.heap.size := by
    obtain ⟨A, c, v, m, lo, hi, _, _, _, _, _, _, _, _, h9⟩ := h
    exact h9
  exact h.keep (fun k hk => hb.block k (hk.elim (fun e => e ▸ hl) (h9 k))) hb.size
theorem FsAt.lts {w : World} {g : Nat} {O : Nat → Prop} {tb : Option Nat} {f : FsV} (h : FsAt w g O tb f) : ∀ k, O k → k < w.heap.size := by
  obtain ⟨A, c, v, m, lo, hi, _, _, _, _, _, _, _, _, h9⟩ := h
  exact h9
theorem FsAt.mono {w : World} {g : Nat} {O O' : Nat → Prop} {tb : Option Nat} {f : FsV} (h : FsAt w g O tb f) (hO : ∀ k, O k → O' k) (hl : ∀ k, O' k → k < w.heap.size) : FsAt w g O' tb f := by
  obtain ⟨A, c, v, m, lo, hi, h1, h2, h3, h4, h5, h6, h7, h8, h9⟩ := h
  exact ⟨A, c, v, m, lo, hi, h1, h2, h3, fun k a b => ⟨hO k (h4 k a b).1, (h4 k a b).2⟩, Kd.R_mono h5 hO, h6, h7, hO m h8, hl⟩
theorem Faulted.ne {W : World} {m g : Nat} {l : List Int} {cs : Array Value} {t : TypeId} (h : Faulted W m l) (hb : W.heap[g]? = some (.cells cs t (0, 0))) : m ≠ g := by
  obtain ⟨es, clock, h1, _⟩ := h
  rintro rfl
  rw [h1] at hb
  cases hb
theorem Faulted.iff {W : World} {m : Nat} {l l' : List Int} (h : Faulted W m l) (hi : ∀ n, n ∈ l ↔ n ∈ l') : Faulted W m l' := by
  obtain ⟨es, clock, h1, h2, h3⟩ := h
  exact ⟨es, clock, h1, h2, fun n => (h3 n).trans (hi n)⟩
theorem Faulted.made (w : World) : Faulted (w.alloc (.map #[] 0)) w.heap.size [] := ⟨#[], 0, World.alloc_heap_new w _, fun x hx => by simp at hx, fun n => by simp⟩
end Go.Proofs.YthlcjjhfkldmhaaDoor.G
end
