/- A step over a map turns no tape. No program in sight. -/
import Derived.Laws.IdiomRangeMap
namespace Go.Proofs.YtdnhjnlhmfajnaaDoor.G
set_option linter.unusedVariables false
/-- Nothing that turns the tape. -/
def calm {α : Type} : Sem α → Prop
  | .pure _ => True
  | .getObj _ k => ∀ o, calm (k o)
  | .setObj _ _ k => calm k
  | .choose _ k => ∀ n, calm (k n)
  | .halt _ => True
  | _ => False
theorem calm_bind {α β : Type} (f : α → Sem β) (hf : ∀ a, calm (f a)) : ∀ m : Sem α, calm m → calm (m.bind f)
  | .pure a, _ => hf a
  | .getObj r k, h => fun o => calm_bind f hf (k o) (h o)
  | .setObj r o k, h => calm_bind f hf k h
  | .choose q k, h => fun n => calm_bind f hf (k n) (h n)
  | .halt _, _ => trivial
theorem calm_tape {P : Program} {α : Type} (m : Sem α) : ∀ (w : World) (v : α) (w' : World), calm m → m.run P w = .ok v w' → w'.tape = w.tape := by
  induction m with
  | pure a => intro w v w' _ h; rw [Sem.run] at h; injection h with _ h; rw [h]
  | getObj r k ih =>
    intro w v w' hc h
    rw [Sem.run] at h
    split at h
    · cases h
    · exact ih _ _ _ _ (hc _) h
    · cases h
  | setObj r o k ih =>
    intro w v w' hc h
    rw [Sem.run] at h
    split at h
    · cases h
    · have := ih _ _ _ hc h
      exact this
    · cases h
  | choose q k ih =>
    intro w v w' hc h
    rw [Sem.run] at h
    split at h
    · exact ih _ _ _ _ (hc _) h
    · have := ih _ _ _ _ (hc _) h
      exact this
  | halt x => intro w v w' _ h; rw [Sem.run] at h; cases h
  | _ => intro w v w' hc _; exact hc.elim
theorem calm_next (r : Nat) (ty : TypeId) : calm (Instr.next (.pointer (some ⟨r, 0, none⟩)) false ty) := by
  unfold Instr.next
  refine calm_bind _ (fun o => ?_) _ (fun o => trivial)
  split
  · trivial
  · trivial
  · refine calm_bind _ (fun o => ?_) _ (fun o => trivial)
    split
    · split
      · trivial
      · refine fun n => ?_
        simp only [Bind.bind, Sem.bind]
        split
        · trivial
        · trivial
        · trivial
    · trivial
  · trivial
end Go.Proofs.YtdnhjnlhmfajnaaDoor.G
