/- An element of a script. -/
import Derived.Test.YthlcjjhfkldmhaaDoorVFrame
import Derived.Test.YthlcjjhfkldmhaaDoorVHd
set_option linter.unusedVariables false
set_option linter.unusedSimpArgs false
namespace Go.Proofs.YthlcjjhfkldmhaaDoor.G
open Go.RowKit Go.Lib Go.Proofs.YthlcjjhfkldmhaaDoorW.PrintWords Go.Proofs.YthlcjjhfkldmhaaDoorW.PrintLast
set_option linter.unusedVariables false

def zeroStep : Step := ⟨0, [], [], ⟨#[]⟩⟩
/-- Element k of a script that came in at w, in a later world. -/
theorem step_at {w W : World} {A : Option Addr} {l : List Step} (h : StepK.C w A l.length l) (hb : Below w.heap.size w W) (k : Nat) (hk : k < l.length) :
    ∃ ad A' c' B' d', A = some ad ∧ W.cell? (ad.add (k * 4)) = some (.int .u8 l[k].kind) ∧ W.cell? ⟨(ad.add (k * 4)).block, (ad.add (k * 4)).off + 1, none⟩ = some (.slice A' l[k].path.length c')
      ∧ W.cell? ⟨(ad.add (k * 4)).block, (ad.add (k * 4)).off + 2, none⟩ = some (.slice B' l[k].dest.length d') ∧ W.cell? ⟨(ad.add (k * 4)).block, (ad.add (k * 4)).off + 3, none⟩ = some (.string l[k].data)
      ∧ l[k].path.length ≤ c' ∧ Kd.F Kd.string W (fun j => j < w.heap.size) A' l[k].path.length l[k].path ∧ l[k].dest.length ≤ d' ∧ Kd.F Kd.string W (fun j => j < w.heap.size) B' l[k].dest.length l[k].dest := by
  obtain ⟨ad, c, e, _, hK, hc0⟩ := Kd.C_get h zeroStep (k : Int) (by omega) (by omega)
  rw [Int.toNat_natCast] at hc0 hK
  have hg : l.getD k zeroStep = l[k] := by simp [List.getD, hk]
  rw [hg] at hK
  have hc : ∀ j u, c[j]? = some u → W.cell? (ad.add (k * 4 + j)) = some u := fun j u hu => by
    have h1 : w.cell? (ad.add (k * 4 + j)) = some u := hc0 j u hu
    exact (hb.cell (World.block_lt_of_cell? w _ h1)).trans h1
  obtain ⟨A', c', B', d', rfl, h1, h2, h3, h4⟩ := step_open hK
  have mv : ∀ {X : Option Addr} {p : List ByteArray}, Kd.C Kd.string w X p.length p → Kd.F Kd.string W (fun j => j < w.heap.size) X p.length p := fun q => Kd.F_step (Kd.C_F Kd.heap_string q) fun j hj _ => hb.block j hj
  exact ⟨ad, A', c', B', d', e, hc 0 _ rfl, by rw [← add_field _ _ 1 (by omega)]; exact hc 1 _ rfl, by rw [← add_field _ _ 2 (by omega)]; exact hc 2 _ rfl, by rw [← add_field _ _ 3 (by omega)]; exact hc 3 _ rfl, h1, mv h2, h3, mv h4⟩
theorem steps_len (l : List Step) : 5 * l.length ≤ stepsB l := by
  induction l with
  | nil => exact Nat.zero_le _
  | cons y r ih =>
    have h1 : stepsB (y :: r) = stepB y + stepsB r := by simp [stepsB]
    have h2 : 5 ≤ stepB y := by unfold stepB; omega
    simp only [List.length_cons]
    omega
theorem stepB_mem {l : List Step} {x : Step} (h : x ∈ l) : stepB x ≤ stepsB l := by
  induction l with
  | nil => cases h
  | cons y r ih =>
    have h1 : stepsB (y :: r) = stepB y + stepsB r := by simp [stepsB]
    rcases List.mem_cons.1 h with rfl | h
    · omega
    · have := ih h; omega
end Go.Proofs.YthlcjjhfkldmhaaDoor.G
