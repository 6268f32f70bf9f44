/- A call with a plan of faults against one without: plain. -/
import Derived.Test.YthlcjjhfkldmhaaDoorVPlain
import Derived.Test.YthlcjjhfkldmhaaDoorVDo
set_option linter.unusedVariables false
set_option linter.unusedSimpArgs false
namespace Go.Proofs.YthlcjjhfkldmhaaDoor.G
open Go.RowKit Go.Lib Go.Proofs.YthlcjjhfkldmhaaDoorW.PrintWords Go.Proofs.YthlcjjhfkldmhaaDoorW.PrintLast
set_option linter.unusedVariables false
set_option linter.unusedSimpArgs false

theorem norm_why (a : List ByteArray) (s : ByteArray) : (P.normR a s).2.2 ≠ 42 := by
  unfold P.normR
  repeat' split
  all_goals simp
theorem walkIn_why (last : Bool) (follow : Option (List ByteArray → WR)) (hf : ∀ g, follow = some g → ∀ todo, (g todo).2.2.2 ≠ 42) : ∀ (todo done : List ByteArray) (here : File), (walkIn last follow todo done here).2.2.2 ≠ 42
  | [], done, here => by rw [walkIn]; simp
  | n :: rest, done, here => by
    have hb : ∀ k, k ≠ 42 → (badW k).2.2.2 ≠ 42 := fun k h => h
    rw [walkIn]
    split
    · split
      · split
        · simp
        · exact hb _ (by decide)
      · split
        · split
          · exact hb _ (by decide)
          · rename_i g
            split
            · split
              · exact hf g rfl _
              · exact hb _ (by decide)
            · exact hb _ (norm_why _ _)
        · exact walkIn_why last follow hf rest _ _
    · exact hb _ (by decide)
theorem follow_why (t : File) (last : Bool) : ∀ (k : Nat) (g : List ByteArray → WR), followK t last k = some g → ∀ todo, (g todo).2.2.2 ≠ 42
  | 0, g, h => by simp [followK] at h
  | k + 1, g, h => by
    intro todo
    simp only [followK, Option.some.injEq] at h
    subst h
    exact walkIn_why last (followK t last k) (follow_why t last k) todo [] t
theorem walk_why (t : File) (p : List ByteArray) (last : Bool) : (walkR t p last).2.2.2 ≠ 42 := by
  unfold walkR
  split
  · exact walkIn_why last (followK t last 40) (follow_why t last 40) p [] t
  · show (3 : Int) ≠ 42; decide
theorem go_why : ∀ (p : List ByteArray) (f : File), (goP f p).1 ≠ 42
  | [], f => by rw [goP]; simp
  | n :: p, f => by
    rw [goP]
    split
    · split
      · split
        · exact go_why p _
        · simp
      · simp
    · simp
theorem putA_why (t f : File) (p : List ByteArray) : (putA t p f).2 ≠ 42 := by
  rcases nil_or_snoc p with rfl | ⟨q, n, rfl⟩
  · rw [putA_nil]; unfold nilR; split <;> simp
  · rw [putA_snoc]
    unfold putR
    split
    · have h := go_why q t
      split
      · split
        · split <;> simp
        · simp
      · rename_i k hg; rw [hg] at h; exact h
    · simp
theorem dropA_why (t : File) (p : List ByteArray) : (dropA t p).2 ≠ 42 := by
  rcases nil_or_snoc p with rfl | ⟨q, n, rfl⟩
  · rw [dropA_nil]; unfold nilR; split <;> simp
  · rw [dropA_snoc]
    unfold dropR
    split
    · have h := go_why (q ++ [n]) t
      have h2 := go_why q t
      split
      · split
        · simp
        · rename_i k hg; rw [hg] at h2; exact h2
      · rename_i k hg; rw [hg] at h; exact h
    · simp
theorem op_why (k : Int) (t : File) (x : Req) : (opR k t x).2.2 ≠ 42 := by
  have h1 := walk_why t x.p true
  have h2 := walk_why t x.p false
  have h3 := walk_why t x.dest false
  unfold opR
  split
  · unfold lstatR; simp only
    split
    · split <;> simp
    · exact h2
  split
  · unfold readV; simp only
    split
    · split
      · split <;> simp
      · simp
    · exact h1
  split
  · unfold createR; simp only
    split
    · split
      · simp
      · rw [putV_zero]; exact putA_why _ _ _
    · exact h1
  split
  · unfold appendR; simp only
    split
    · split
      · split
        · simp
        · rw [putV_zero]; exact putA_why _ _ _
      · simp
    · exact h1
  · unfold renameR; simp only
    split
    · split
      · split
        · simp
        · split
          · split
            · simp
            · split
              · simp
              · split
                · split
                  · simp
                  · exact putA_why _ _ _
                · exact dropA_why _ _
          · exact h3
      · simp
    · exact h2
/-- A call that the plan lets fail; one that it doesn't. -/
theorem call_fault {f : FsV} {k : Int} {x : Req} (h : (f.trace.length : Int) ∈ f.faults) (hl : (callV f k x).1.trace.length = f.trace.length + 1) : (callV f k x).2 = (told0 x.data, 42) ∧ (callV f k x).1.tree = f.tree := by
  unfold callV at hl ⊢
  split
  · rename_i hr
    simp only [if_pos h, and_self]
  · rename_i hr
    rw [if_neg hr] at hl
    simp only at hl
    omega
theorem call_same {f g : FsV} {k : Int} {x : Req} (ht : f.tree = g.tree) (hg : g.faults = []) (h : ¬ ((f.trace.length : Int) ∈ f.faults ∧ (callV f k x).1.trace.length = f.trace.length + 1)) : (callV f k x).2 = (callV g k x).2 ∧ (callV f k x).2.2 ≠ 42 ∧ (callV f k x).1.tree = (callV g k x).1.tree := by
  unfold callV at h ⊢
  split
  · rename_i hr
    rw [if_pos hr] at h
    have hn : ¬ (f.trace.length : Int) ∈ f.faults := fun hm => h ⟨hm, by simp⟩
    simp only
    rw [if_neg hn, hg, if_neg (by simp), ht]
    exact ⟨rfl, op_why _ _ _, rfl⟩
  · exact ⟨rfl, by simp, ht⟩
/-- The request of a step. -/
def reqOf (x : Step) : Req := ⟨x.path, if x.kind = 5 then x.dest else [], if x.kind = 4 then x.data else ⟨#[]⟩⟩
/-- What a step answers, of what the call tells. -/
def ansOf (k : Int) (r : Told × Int) : Told × Int := (if k = 1 then ⟨r.1.kind, r.1.size, ⟨#[]⟩⟩ else if k = 2 then told0 r.1.data else told0 ⟨#[]⟩, r.2)
theorem do_call (f : FsV) (x : Step) (hx : oneOf x = true) : (doV f x).1 = (callV f x.kind (reqOf x)).1 ∧ (doV f x).2 = ansOf x.kind (callV f x.kind (reqOf x)).2 := by
  obtain ⟨k, p, q, d⟩ := x
  have hk : k = 1 ∨ k = 2 ∨ k = 3 ∨ k = 4 ∨ k = 5 := by
    simp only [oneOf, decide_eq_true_iff] at hx
    omega
  rcases hk with rfl | rfl | rfl | rfl | rfl <;> exact ⟨rfl, rfl⟩
theorem reqOf_data (x : Step) : (reqOf x).data.size ≤ x.data.size := by
  unfold reqOf
  simp only
  split
  · exact Nat.le_refl _
  · exact Nat.zero_le _
theorem do_grows (f : FsV) (x : Step) (ht : rightT f.tree = true) : rightT (doV f x).1.tree = true ∧ (doV f x).1.tree.bulk ≤ f.tree.bulk + x.data.size + 259 ∧ (doV f x).1.trace.length ≤ f.trace.length + 1 ∧ (doV f x).1.faults = f.faults := by
  by_cases hx : oneOf x = true
  · rw [(do_call f x hx).1]
    obtain ⟨h1, h2, h3, h4⟩ := call_grows f x.kind (reqOf x) ht
    have := reqOf_data x
    exact ⟨h1, by omega, h3, h4⟩
  · have h : doV f x = (f, told0 ⟨#[]⟩, 0) := by
      simp only [oneOf, decide_eq_true_iff] at hx
      unfold doV
      rw [if_neg (by omega), if_neg (by omega), if_neg (by omega), if_neg (by omega), if_neg (by omega)]
    rw [h]
    exact ⟨ht, by simp only; omega, by simp only; omega, rfl⟩
theorem do_fault {f : FsV} {x : Step} (hx : oneOf x = true) (h : (f.trace.length : Int) ∈ f.faults) (hl : (doV f x).1.trace.length = f.trace.length + 1) : (doV f x).2 = (told0 ⟨#[]⟩, 42) ∧ (doV f x).1.tree = f.tree := by
  obtain ⟨h1, h2⟩ := do_call f x hx
  rw [h1] at hl ⊢
  obtain ⟨h3, h4⟩ := call_fault h hl
  rw [h2, h3]
  refine ⟨?_, h4⟩
  unfold ansOf told0
  simp only
  split
  · rfl
  · split
    · rename_i h5 h6
      unfold reqOf
      simp only
      rw [if_neg (by omega)]
    · rfl
theorem do_same {f g : FsV} {x : Step} (hx : oneOf x = true) (ht : f.tree = g.tree) (hg : g.faults = []) (h : ¬ ((f.trace.length : Int) ∈ f.faults ∧ (doV f x).1.trace.length = f.trace.length + 1)) : (doV f x).2 = (doV g x).2 ∧ (doV f x).2.2 ≠ 42 ∧ (doV f x).1.tree = (doV g x).1.tree := by
  obtain ⟨h1, h2⟩ := do_call f x hx
  obtain ⟨h3, h4⟩ := do_call g x hx
  rw [h1] at h ⊢
  rw [h2, h3, h4]
  obtain ⟨h5, h6, h7⟩ := call_same ht hg h
  rw [h5]
  exact ⟨rfl, by rw [h5] at h6; exact h6, h7⟩
end Go.Proofs.YthlcjjhfkldmhaaDoor.G
