/- What a call writes into the trace: plain. -/
import Derived.Test.YthlcjjhfkldmhaaDoorVFaultP
import Derived.Test.YthlcjjhfkldmhaaDoorVTrace
set_option linter.unusedVariables false
set_option linter.unusedSimpArgs false
namespace Go.Proofs.YthlcjjhfkldmhaaDoor.G
open Go.RowKit Go.Lib Go.Proofs.YthlcjjhfkldmhaaDoorW.PrintWords Go.Proofs.YthlcjjhfkldmhaaDoorW.PrintLast
set_option linter.unusedVariables false
set_option linter.unusedSimpArgs false

/-- The paths of a step are right. -/
def fitS (x : Step) : Prop := P.rightB x.path = true ∧ (x.kind = 5 → P.rightB x.dest = true)
instance (x : Step) : Decidable (fitS x) := by unfold fitS; infer_instance
theorem right_nil : P.rightB [] = true := by kernel_rfl
theorem fit_req (x : Step) : (P.rightB (reqOf x).p = true ∧ P.rightB (reqOf x).dest = true) ↔ fitS x := by
  unfold fitS reqOf
  simp only
  split
  · rename_i h
    exact ⟨fun g => ⟨g.1, fun _ => g.2⟩, fun g => ⟨g.1, g.2 h⟩⟩
  · rename_i h
    exact ⟨fun g => ⟨g.1, fun e => absurd e h⟩, fun g => ⟨g.1, right_nil⟩⟩
theorem tell_fit {f : FsV} {x : Step} (hx : oneOf x = true) (h : fitS x) : (doV f x).1.trace = f.trace ++ [⟨x.kind, x.path, if x.kind = 5 then x.dest else [], (doV f x).2.2⟩] := by
  obtain ⟨h1, h2⟩ := do_call f x hx
  rw [h1, h2]
  unfold callV
  rw [if_pos ((fit_req x).2 h)]
  simp only [ansOf]
  unfold reqOf
  simp only
  split <;> rfl
theorem tell_unfit {f : FsV} {x : Step} (hx : oneOf x = true) (h : ¬ fitS x) : (doV f x).1 = f ∧ (doV f x).2.2 = 20 := by
  obtain ⟨h1, h2⟩ := do_call f x hx
  rw [h1, h2]
  unfold callV
  rw [if_neg (fun e => h ((fit_req x).1 e))]
  exact ⟨rfl, rfl⟩
/-- A trace's paths are short. -/
def shortT (l : List Call) : Prop := ∀ x ∈ l, x.path.length ≤ 1024 ∧ x.dest.length ≤ 1024
theorem fit_short {x : Step} (h : fitS x) (why : Int) : (⟨x.kind, x.path, if x.kind = 5 then x.dest else [], why⟩ : Call).path.length ≤ 1024 ∧ (⟨x.kind, x.path, if x.kind = 5 then x.dest else [], why⟩ : Call).dest.length ≤ 1024 := by
  have h1 := P.sumP_len x.path
  have h2 := P.rightB_sum h.1
  refine ⟨by simp only; omega, ?_⟩
  simp only
  split
  · rename_i h5
    have h3 := P.sumP_len x.dest
    have h4 := P.rightB_sum (h.2 h5)
    omega
  · exact Nat.zero_le _
theorem do_short {f : FsV} {x : Step} (h : shortT f.trace) : shortT (doV f x).1.trace := by
  by_cases hx : oneOf x = true
  · by_cases hf : fitS x
    · rw [tell_fit hx hf]
      intro y hy
      rcases List.mem_append.1 hy with hy | hy
      · exact h y hy
      · rw [List.mem_singleton.1 hy]
        exact fit_short hf _
    · rw [(tell_unfit hx hf).1]
      exact h
  · have h0 : doV f x = (f, told0 ⟨#[]⟩, 0) := by
      simp only [oneOf, decide_eq_true_iff] at hx
      unfold doV
      rw [if_neg (by omega), if_neg (by omega), if_neg (by omega), if_neg (by omega), if_neg (by omega)]
    rw [h0]
    exact h
theorem trace_in (w : World) (g : Nat) (S : Nat → Prop) (f : FsV) (h : FsIn S w g f) (htl : f.trace.length ≤ 1000000) (hs : shortT f.trace) :
    Calls Tryd.prog 25 #[.pointer (some ⟨g, 0, none⟩)] w fun e w' => ∃ v, e = .returned v ∧ CallK.R 59 w' w.heap.size (fun _ => True) v f.trace ∧ Below w.heap.size w w' := by
  obtain ⟨O, tb, h1, _⟩ := h
  exact trace_api w g O tb f h1 htl fun x hx => ⟨by have := (hs x hx).1; omega, by have := (hs x hx).2; omega⟩
end Go.Proofs.YthlcjjhfkldmhaaDoor.G
