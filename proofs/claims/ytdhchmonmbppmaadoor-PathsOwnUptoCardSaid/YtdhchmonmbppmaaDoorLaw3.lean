/- Plain laws of Cover and Inside: no program in sight. -/
import Derived.Test.YtdhchmonmbppmaaDoorLaw2
namespace Go.Proofs.YtdhchmonmbppmaaDoor.G
open Go.Lib
set_option linter.unusedVariables false

def sortedP : List (List ByteArray) → Prop := List.Pairwise fun x y => cmpP x y ≤ 0
def strictP : List (List ByteArray) → Prop := List.Pairwise fun x y => cmpP x y < 0
/-- The least of a list: what lies within no other one. -/
def leastP (l : List (List ByteArray)) (x : List ByteArray) : Prop := x ∈ l ∧ ∀ y ∈ l, y <+: x → y = x

theorem cmp_self (x : List ByteArray) : cmpP x x = 0 := cmp_zero.2 rfl
theorem cmp_lt_trans {a b c : List ByteArray} (h1 : cmpP a b < 0) (h2 : cmpP b c ≤ 0) : cmpP a c < 0 := by
  have h3 := cmp_trans (a := a) (b := b) (c := c) (by omega) h2
  rcases Int.lt_or_le (cmpP a c) 0 with h | h
  · exact h
  · have h4 : cmpP a c = 0 := by omega
    have h5 := cmp_zero.1 h4
    subst h5
    have := cmp_anti a b
    omega
theorem prefix_between : ∀ {o z p : List ByteArray}, cmpP o z ≤ 0 → cmpP z p ≤ 0 → o <+: p → o <+: z
  | [], z, p, _, _, _ => List.nil_prefix
  | x :: o, z, [], _, _, h => by simp at h
  | x :: o, [], y :: p, h, _, _ => by simp [cmpP] at h
  | x :: o, u :: z, y :: p, h1, h2, h => by
    obtain ⟨rfl, h3⟩ := List.cons_prefix_cons.1 h
    unfold cmpP at h1 h2
    by_cases e : x = u
    · subst e
      rw [if_pos rfl] at h1 h2
      exact List.cons_prefix_cons.2 ⟨rfl, prefix_between h1 h2 h3⟩
    · rw [if_neg e] at h1
      rw [if_neg (fun h => e h.symm)] at h2
      have h4 := cb_anti u.data.toList x.data.toList
      have h5 : compareBytes x.data.toList u.data.toList = 0 := by omega
      exact absurd (data_eq (cb_zero.1 h5)) e

/-- paths.Cover over a sorted list. -/
def coverStep (out : List (List ByteArray)) (p : List ByteArray) : List (List ByteArray) :=
  if out.isEmpty || !(decide (both p (out.getLastD []) = (out.getLastD []).length)) then out ++ [p] else out
def coverF (s : List (List ByteArray)) : List (List ByteArray) := s.foldl coverStep []

theorem coverStep_in {out : List (List ByteArray)} {p o : List ByteArray} (h : out ≠ []) (ho : out.getLastD [] = o) (hp : o <+: p) : coverStep out p = out := by
  unfold coverStep
  rw [ho]
  have h1 : decide (both p o = o.length) = true := decide_eq_true ((both_prefix p o).2 hp)
  have h2 : out.isEmpty = false := by cases out with | nil => exact absurd rfl h | cons _ _ => rfl
  rw [h1, h2]
  rfl
theorem coverStep_out {out : List (List ByteArray)} {p : List ByteArray} (h : out = [] ∨ ¬ out.getLastD [] <+: p) : coverStep out p = out ++ [p] := by
  unfold coverStep
  rcases h with rfl | h
  · rfl
  · have h1 : decide (both p (out.getLastD []) = (out.getLastD []).length) = false := decide_eq_false (fun e => h ((both_prefix p _).1 e))
    rw [h1]
    simp

/-- What holds of the list so far, s having been gone through. -/
structure CovI (s out : List (List ByteArray)) : Prop where
  strict : strictP out
  sub : ∀ o ∈ out, leastP s o
  all : ∀ x ∈ s, ∃ o ∈ out, o <+: x
theorem last_mem' {out : List (List ByteArray)} (h : out ≠ []) : out.getLastD [] ∈ out := by
  rw [List.getLastD_eq_getLast?, List.getLast?_eq_some_getLast h]
  exact List.getLast_mem h
theorem strict_last {out : List (List ByteArray)} (h : strictP out) : ∀ o ∈ out, cmpP o (out.getLastD []) ≤ 0 := by
  intro o ho
  have hne : out ≠ [] := by rintro rfl; cases ho
  have h1 := List.dropLast_concat_getLast hne
  have hl : out.getLastD [] = out.getLast hne := by rw [List.getLastD_eq_getLast?, List.getLast?_eq_some_getLast hne]; rfl
  rw [hl]
  unfold strictP at h
  rw [← h1, List.pairwise_append] at h
  rw [← h1] at ho
  rcases List.mem_append.1 ho with ho | ho
  · have := h.2.2 o ho _ (List.mem_singleton.2 rfl); omega
  · rw [List.mem_singleton.1 ho, cmp_self]; decide
theorem cov_step {s out : List (List ByteArray)} {p : List ByteArray} (h : CovI s out) (hs : ∀ x ∈ s, cmpP x p ≤ 0) : CovI (s ++ [p]) (coverStep out p) := by
  by_cases hin : ∃ o ∈ out, o <+: p
  · obtain ⟨o, ho, hop⟩ := hin
    have hne : out ≠ [] := by rintro rfl; cases ho
    have hlast := last_mem' hne
    have h1 : o <+: out.getLastD [] := prefix_between (strict_last h.strict o ho) (hs _ (h.sub _ hlast).1) hop
    have h2 := (h.sub _ hlast).2 o (h.sub o ho).1 h1
    rw [coverStep_in hne rfl (h2 ▸ hop)]
    refine ⟨h.strict, fun x hx => ⟨List.mem_append_left _ (h.sub x hx).1, fun y hy hyx => ?_⟩, fun x hx => ?_⟩
    · rcases List.mem_append.1 hy with hy | hy
      · exact (h.sub x hx).2 y hy hyx
      · obtain rfl := List.mem_singleton.1 hy
        have h3 := hs x (h.sub x hx).1
        have h4 := cmp_prefix hyx
        have h5 := cmp_anti x y
        exact (cmp_zero.1 (show cmpP y x = 0 by omega))
    · rcases List.mem_append.1 hx with hx | hx
      · exact h.all x hx
      · exact ⟨o, ho, (List.mem_singleton.1 hx) ▸ hop⟩
  · have hout : out = [] ∨ ¬ out.getLastD [] <+: p := by
      by_cases hne : out = []
      · exact .inl hne
      · exact .inr (fun e => hin ⟨_, last_mem' hne, e⟩)
    rw [coverStep_out hout]
    have hlt : ∀ x ∈ out, cmpP x p < 0 := by
      intro x hx
      have h1 := hs x (h.sub x hx).1
      rcases Int.lt_or_le (cmpP x p) 0 with h2 | h2
      · exact h2
      · have h3 : x = p := cmp_zero.1 (by omega)
        exact absurd ⟨x, hx, h3 ▸ List.prefix_refl x⟩ hin
    refine ⟨?_, fun x hx => ?_, fun x hx => ?_⟩
    · unfold strictP
      rw [List.pairwise_append]
      exact ⟨h.strict, List.pairwise_singleton _ _, fun x hx y hy => (List.mem_singleton.1 hy) ▸ hlt x hx⟩
    · rcases List.mem_append.1 hx with hx2 | hx
      · refine ⟨List.mem_append_left _ (h.sub x hx2).1, fun y hy hyx => ?_⟩
        rcases List.mem_append.1 hy with hy | hy
        · exact (h.sub x hx2).2 y hy hyx
        · obtain rfl := List.mem_singleton.1 hy
          have h3 := hlt x hx2
          have h4 := cmp_prefix hyx
          have h5 := cmp_anti x y
          omega
      · obtain rfl := List.mem_singleton.1 hx
        refine ⟨List.mem_append_right _ (List.mem_singleton.2 rfl), fun y hy hyx => ?_⟩
        rcases List.mem_append.1 hy with hy | hy
        · obtain ⟨o, ho, hoy⟩ := h.all y hy
          exact absurd ⟨o, ho, hoy.trans hyx⟩ hin
        · exact List.mem_singleton.1 hy
    · rcases List.mem_append.1 hx with hx | hx
      · obtain ⟨o, ho, hox⟩ := h.all x hx
        exact ⟨o, List.mem_append_left _ ho, hox⟩
      · exact ⟨p, List.mem_append_right _ (List.mem_singleton.2 rfl), (List.mem_singleton.1 hx) ▸ List.prefix_refl p⟩
theorem cov_fold : ∀ (t s out : List (List ByteArray)), CovI s out → sortedP (s ++ t) → CovI (s ++ t) (t.foldl coverStep out)
  | [], s, out, h, _ => by rw [List.append_nil]; exact h
  | p :: t, s, out, h, hs => by
    have h1 : ∀ x ∈ s, cmpP x p ≤ 0 := by
      intro x hx
      unfold sortedP at hs
      rw [List.pairwise_append] at hs
      exact hs.2.2 x hx p List.mem_cons_self
    have h2 := cov_fold t (s ++ [p]) _ (cov_step h h1) (by rw [List.append_assoc]; exact hs)
    rw [List.append_assoc] at h2
    exact h2
theorem cov_all {s : List (List ByteArray)} (h : sortedP s) : CovI s (coverF s) := by
  have h0 : CovI [] [] := ⟨List.Pairwise.nil, (fun o ho => by cases ho), (fun x hx => by cases hx)⟩
  exact cov_fold s [] [] h0 h
/-- The least ones exactly. -/
theorem cov_mem {s out : List (List ByteArray)} (h : CovI s out) (x : List ByteArray) : x ∈ out ↔ leastP s x := by
  constructor
  · exact h.sub x
  · rintro ⟨h1, h2⟩
    obtain ⟨o, ho, hox⟩ := h.all x h1
    rw [← h2 o (h.sub o ho).1 hox]
    exact ho
theorem least_perm {s l : List (List ByteArray)} (h : s.Perm l) (x : List ByteArray) : leastP s x ↔ leastP l x :=
  ⟨fun ⟨h1, h2⟩ => ⟨h.mem_iff.1 h1, fun y hy => h2 y (h.mem_iff.2 hy)⟩, fun ⟨h1, h2⟩ => ⟨h.mem_iff.2 h1, fun y hy => h2 y (h.mem_iff.1 hy)⟩⟩
theorem strict_unique : ∀ {a b : List (List ByteArray)}, strictP a → strictP b → (∀ x, x ∈ a ↔ x ∈ b) → a = b
  | [], [], _, _, _ => rfl
  | [], y :: b, _, _, h => absurd ((h y).2 List.mem_cons_self) (by simp)
  | x :: a, [], _, _, h => absurd ((h x).1 List.mem_cons_self) (by simp)
  | x :: a, y :: b, ha, hb, h => by
    unfold strictP at ha hb
    rw [List.pairwise_cons] at ha hb
    have hxy : x = y := by
      rcases List.mem_cons.1 ((h x).1 List.mem_cons_self) with e | e
      · exact e
      · rcases List.mem_cons.1 ((h y).2 List.mem_cons_self) with e2 | e2
        · exact e2.symm
        · have h1 := hb.1 x e
          have h2 := ha.1 y e2
          have h3 := cmp_anti x y
          omega
    subst hxy
    congr 1
    refine strict_unique ha.2 hb.2 fun z => ?_
    constructor
    · intro hz
      rcases List.mem_cons.1 ((h z).1 (List.mem_cons_of_mem _ hz)) with e | e
      · have := ha.1 z hz
        rw [e, cmp_self] at this
        omega
      · exact e
    · intro hz
      rcases List.mem_cons.1 ((h z).2 (List.mem_cons_of_mem _ hz)) with e | e
      · have := hb.1 z hz
        rw [e, cmp_self] at this
        omega
      · exact e

/-! ### The reference's Cover -/
def keepB (l : List (List ByteArray)) (i : Nat) : Bool :=
  (List.range l.length).all fun k => !(decide (both (l.getD i []) (l.getD k []) = (l.getD k []).length) && (decide ((l.getD k []).length < (l.getD i []).length) || decide (k < i)))
/-- A path put into a sorted list, from behind. -/
def insP (p : List ByteArray) : List (List ByteArray) → List (List ByteArray)
  | [] => [p]
  | x :: out => if cmpP p x < 0 then p :: x :: out else x :: insP p out
end Go.Proofs.YtdhchmonmbppmaaDoor.G
