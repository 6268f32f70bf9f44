/- A list of paths among the arguments, opened. -/
import Derived.Test.YtdhchmonmbppmaaDoorFrame
import Derived.Test.YtdhchmonmbppmaaDoorLists
import Derived.Deep.Slices
namespace Go.Proofs.YtdhchmonmbppmaaDoor.G
open Go.Deep Go.ChangeShapes Go.WideShapes Go.ChangeAt Go.RowKit Go.Proofs.YtdhchmonmbppmaaDoorW.PrintWords Go.Proofs.YtdhchmonmbppmaaDoorW.PrintLast
set_option linter.unusedVariables false

theorem open_path_cell {H : Type} {enc : TypeId × Value → H} {P : Program} {W : World} {t e : TypeId} {n : Nat} {v : Value} {d : DataW H} {ps : List MemPlace}
    (ht : P.underlying t = some (.slice e)) (he : P.underlying e = some .string) (hc : P.cellsOf e = 1) (hf : DataW.trod enc P W 0 (fun _ => true) true n t [v] = some (d, ps)) :
    ∃ A c l, v = .slice A (List.length l) c ∧ l.length ≤ c ∧ Kd.C Kd.string W A l.length l ∧ sumP l + 1 ≤ Rows.uptoBulk d := by
  rcases open_strings ht he hc hf with ⟨hcs, hx⟩ | ⟨a, len', cap', ss, hcs, hle, hl, hm, hz, hx, hcell, hsz⟩
  · obtain rfl : v = _ := (List.cons.inj hcs).1
    simp only [Prod.mk.injEq] at hx
    obtain ⟨rfl, rfl⟩ := hx
    refine ⟨none, 0, [], rfl, by simp, ?_, by simp [sumP, Rows.uptoBulk]⟩
    exact Kd.C_of_reads (d := ByteArray.empty) (h1 := fun _ => rfl) ⟨rfl, by simp, fun h => absurd h (by simp)⟩
  · obtain rfl : v = _ := (List.cons.inj hcs).1
    simp only [if_true] at hz
    simp only [Prod.mk.injEq] at hx
    obtain ⟨rfl, rfl⟩ := hx
    have hlen : (ss.take len').length = len' := by rw [List.length_take]; omega
    refine ⟨some a, cap', ss.take len', by rw [hlen], by omega, ?_, ?_⟩
    · rw [hlen]
      refine Kd.C_of_reads (d := ByteArray.empty) (h1 := fun _ => rfl) ⟨hlen, by simp only [maxLen] at hm; omega, fun _ => ⟨a, rfl, fun j hj => ?_⟩⟩
      rw [hcell j (by omega)]
      simp [List.getD, hj]
    · have := bulk_strs (H := H) (ss.take len')
      simp only [Rows.uptoBulk]
      omega

theorem choose_list {α : Type} {n : Nat} {p : Nat → α → Prop} (h : ∀ i, i < n → ∃ x, p i x) : ∃ l : List α, l.length = n ∧ ∀ i x, l[i]? = some x → p i x := by
  induction n with
  | zero => exact ⟨[], rfl, fun i x hx => by simp at hx⟩
  | succ n ih =>
    obtain ⟨l, hl, hp⟩ := ih fun i hi => h i (by omega)
    obtain ⟨x, hx⟩ := h n (by omega)
    refine ⟨l ++ [x], by simp [hl], fun i y hy => ?_⟩
    rw [List.getElem?_append] at hy
    split at hy
    · exact hp i y hy
    · rename_i hge
      have h0 : i = n := by
        have h1 := (List.getElem?_eq_some_iff.1 hy).1
        simp at h1
        omega
      subst h0
      rw [hl] at hy
      simp at hy
      subst hy
      exact hx

theorem bulk_sum {H : Type} {D : Nat → DataW H} : ∀ (ll : List (List ByteArray)) (k : Nat), (∀ i x, ll[i]? = some x → x.length + 1 ≤ Rows.uptoBulk (D (k + i))) → sumLL ll ≤ Rows.uptoBulkAll ((List.range' k ll.length).map D)
  | [], k, _ => Nat.zero_le _
  | x :: r, k, h => by
    have h0 : x.length + 1 ≤ Rows.uptoBulk (D k) := h 0 x rfl
    have hr := bulk_sum r (k + 1) fun i y hy => by
      have := h (i + 1) y (by simpa using hy)
      rwa [show k + (i + 1) = k + 1 + i by omega] at this
    simp only [List.length_cons, List.range'_succ, List.map_cons, Rows.uptoBulkAll, sumLL, List.sum_cons] at hr ⊢
    omega

/-- A list of paths among the arguments. -/
theorem open_paths {H : Type} {enc : TypeId × Value → H} {P : Program} {W : World} {base : Nat} {t te e : TypeId} {v : Value} {d : DataW H} {ps : List MemPlace}
    (ht : P.underlying t = some (.slice te)) (hte : P.underlying te = some (.slice e)) (he : P.underlying e = some .string) (hcc : P.cellsOf te = 1) (hc : P.cellsOf e = 1) (hv : Value.okWide P W .any base t v) (h : DataW.Trod enc P W 0 (fun _ => true) true t v d ps) :
    ∃ A c ll, v = .slice A (List.length ll) c ∧ ll.length ≤ c ∧ Kd.C PathK W A ll.length ll ∧ sumLL ll ≤ Rows.uptoBulk d := by
  obtain ⟨a0, len, cap, rfl⟩ := okWide_slice ht hv
  obtain ⟨fuel, hf⟩ := h
  rcases open_slice1 ht hcc hf with ⟨hcs, hx⟩ | ⟨a, len', cap', m, n, V, D, Pl, hcs, _, hl, hm, hmm, hx, hat⟩
  · simp [Value.cells] at hcs
    obtain ⟨rfl, rfl, rfl⟩ := hcs
    exact ⟨none, 0, [], rfl, by simp, ⟨rfl, by simp, fun h => absurd h (by simp)⟩, by simp [sumLL]⟩
  · simp [Value.cells] at hcs
    obtain ⟨rfl, rfl, rfl⟩ := hcs
    simp only [if_true] at hmm
    subst hmm
    simp only [Prod.mk.injEq] at hx
    obtain ⟨rfl, rfl⟩ := hx
    obtain ⟨ll, hll, hp⟩ := choose_list (n := len) (p := fun i (l : List ByteArray) => ∃ A c, V i = .slice A l.length c ∧ l.length ≤ c ∧ Kd.C Kd.string W A l.length l ∧ sumP l + 1 ≤ Rows.uptoBulk (D i)) fun i hi => by
      obtain ⟨A, c, l, h1, h2, h3, h4⟩ := open_path_cell hte he hc (hat i (by omega)).2
      exact ⟨l, A, c, h1, h2, h3, h4⟩
    refine ⟨some a, m, ll, by rw [hll], by omega, ⟨rfl, by simp only [maxLen] at hm; omega, fun _ => ⟨a, rfl, fun j p hj => ?_⟩⟩, ?_⟩
    · obtain ⟨A, c, h1, h2, h3, h4⟩ := hp j p hj
      have hj' := (List.getElem?_eq_some_iff.1 hj).1
      refine ⟨[V j], rfl, ⟨A, c, by rw [h1], h2, h3⟩, fun i u hu => ?_⟩
      cases i with
      | zero =>
        obtain rfl := Option.some.inj hu
        rw [show j * PathK.sz + 0 = j by show j * 1 + 0 = j; omega]
        exact (hat j (by omega)).1
      | succ i => simp at hu
    · have := bulk_sum (H := H) (D := D) ll 0 fun i x hx => by
        obtain ⟨A, c, h1, h2, h3, h4⟩ := hp i x hx
        have := sumP_len x
        rw [Nat.zero_add]
        omega
      rw [hll, ← List.range_eq_range'] at this
      simp only [Rows.uptoBulk]
      omega
end Go.Proofs.YtdhchmonmbppmaaDoor.G
