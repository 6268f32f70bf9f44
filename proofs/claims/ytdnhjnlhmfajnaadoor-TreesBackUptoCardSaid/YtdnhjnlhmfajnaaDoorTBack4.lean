/- How long a right tree's text is: plain; no program in sight but for the types. -/
import Derived.Test.YtdnhjnlhmfajnaaDoorTBack3
namespace Go.Proofs.YtdnhjnlhmfajnaaDoor.G
open Go.RowKit Go.Lib Go.Proofs.YtdnhjnlhmfajnaaDoorW.PrintWords Go.Proofs.YtdnhjnlhmfajnaaDoorW.PrintLast
set_option linter.unusedVariables false

theorem preF_names : ∀ (N : Nat) (f : File) (p : List ByteArray), f.bulk ≤ N → (∀ y ∈ preF p f, OkY y) → ∀ y ∈ preF p f, ∃ r, y.1 = p ++ r ∧ ∀ n ∈ r, nameB n.data.toList = true
  | 0, f, p, h, _ => by have := bulk_eq f; omega
  | N + 1, f, p, h, hok => by
    intro y hy
    obtain ⟨x, hx, hyx⟩ := preF_mem.1 hy
    have h1 := (hok _ (preF_child hx)).1
    rcases hyx with rfl | hyx
    · exact ⟨[x.name], rfl, fun n hn => by rw [List.mem_singleton.1 hn]; exact h1⟩
    · obtain ⟨r, hr, hn⟩ := preF_names N x _ (by have := bulk_child hx; omega) (fun z hz => hok z (preF_mem.2 ⟨x, hx, .inr hz⟩)) y hyx
      exact ⟨x.name :: r, by rw [hr]; simp, fun n h => by
        rcases List.mem_cons.1 h with rfl | h
        · exact h1
        · exact hn n h⟩
theorem name_size {n : ByteArray} (h : nameB n.data.toList = true) : n.size ≤ 255 := by
  unfold nameB at h
  simp only [Bool.and_eq_true, decide_eq_true_iff] at h
  rw [Lib.size_eq]
  exact h.1.1.1.2
theorem shown_small : ∀ (q : List ByteArray), (∀ n ∈ q, nameB n.data.toList = true) → (shownS q).size ≤ 256 * q.length := by
  intro q h
  rw [Lib.size_eq, shown_list]
  induction q with
  | nil => simp
  | cons n q ih =>
    have h1 := name_size (h n List.mem_cons_self)
    rw [Lib.size_eq] at h1
    have h2 := ih fun m hm => h m (List.mem_cons_of_mem _ hm)
    simp only [List.map_cons, List.flatten_cons, List.length_append, List.length_cons] at h2 ⊢
    omega
mutual
theorem preF_data : ∀ (f : File) (p : List ByteArray), ((preF p f).map fun y => y.2.data.size).sum ≤ bulkL f.files
  | ⟨n, k, d, l⟩, p => by
    rw [preF]
    exact preL_data l p
theorem preL_data : ∀ (l : List File) (p : List ByteArray), ((preL p l).map fun y => y.2.data.size).sum ≤ bulkL l
  | [], p => by simp [preL]
  | x :: l, p => by
    have h1 := preF_data x (p ++ [x.name])
    have h2 := preL_data l p
    have h3 := bulk_eq x
    simp only [preL, List.map_cons, List.map_append, List.sum_cons, List.sum_append, bulkL_cons]
    omega
end
theorem print_sum (M : Nat) : ∀ (l : List (List ByteArray × File)), (∀ y ∈ l, (shownS y.1).size ≤ M) → (printL l).length ≤ l.length * (4 * M + 11) + 4 * (l.map fun y => y.2.data.size).sum
  | [], _ => by simp [printL]
  | y :: l, h => by
    have h1 := h y List.mem_cons_self
    have h2 := print_sum M l fun z hz => h z (List.mem_cons_of_mem _ hz)
    have h3 := lineB_len y
    have h4 : (printL (y :: l)).length = (lineB y).length + (printL l).length := by simp [printL]
    rw [h4]
    simp only [List.length_cons, List.map_cons, List.sum_cons]
    rw [Nat.succ_mul]
    omega
theorem text_small {f : File} (h : rightT f = true) (hb : f.bulk ≤ 6500000) : (printL (preF [] f)).length ≤ 137438953472 ∧ ∀ y ∈ preF [] f, (lineT y).length ≤ 100000000 := by
  obtain ⟨_, _, _, _, hok⟩ := (right_iff f).1 h
  have hs : ∀ y ∈ preF [] f, (shownS y.1).size ≤ 16384 := fun y hy => by
    obtain ⟨r, hr, hn⟩ := preF_names f.bulk f [] (Nat.le_refl _) hok y hy
    rw [List.nil_append] at hr
    have h1 := shown_small y.1 (by rw [hr]; exact hn)
    have h2 := (hok y hy).2.1
    omega
  have hd := preF_data f []
  have hc := preF_count f []
  have he := bulk_eq f
  refine ⟨?_, fun y hy => ?_⟩
  · have h1 := print_sum 16384 _ hs
    have h2 : (preF [] f).length * (4 * 16384 + 11) ≤ 1625000 * (4 * 16384 + 11) := Nat.mul_le_mul_right _ (by omega)
    omega
  · have h1 := lineB_len y
    have h2 := hs y hy
    have h3 : (lineB y).length = (lineT y).length + 1 := by rw [lineT_end]; simp
    have h4 := (preF_bound f [] y hy).1
    have h5 : (shownS []).size = 0 := rfl
    omega
theorem text_lines {f : File} (h : rightT f = true) (hb : f.bulk ≤ 6500000) : ∀ x ∈ linesP (⟨(printL (preF [] f)).toArray⟩ : ByteArray).data.toList, x.1.size ≤ 100000000 := by
  obtain ⟨_, _, _, _, hok⟩ := (right_iff f).1 h
  have hk : ∀ y ∈ preF [] f, kindOk y.2.kind := fun y hy => by
    have ha := (hok y hy).2.2
    unfold aloneB at ha
    split at ha
    · exact .inl ‹_›
    · split at ha
      · exact .inr (.inl ‹_›)
      · split at ha
        · exact .inr (.inr ‹_›)
        · cases ha
  rw [show (⟨(printL (preF [] f)).toArray⟩ : ByteArray).data.toList = printL (preF [] f) from rfl, lines_printed _ hk]
  intro x hx
  obtain ⟨y, hy, rfl⟩ := List.mem_map.1 hx
  rw [mk_sizeB]
  exact (text_small h hb).2 y hy
theorem text_size {f : File} (h : rightT f = true) (hb : f.bulk ≤ 6500000) : (⟨(printL (preF [] f)).toArray⟩ : ByteArray).size ≤ 137438953472 := by rw [mk_sizeB]; exact (text_small h hb).1
/-- What is read holds no more than its text. -/
theorem line_bulk {t : File} {last : List ByteArray} {s : ByteArray} (h : (lineR t last s).1 = 0) : (lineR t last s).2.1.bulk ≤ t.bulk + (4 + 2 * s.size) := by
  unfold lineR at h ⊢
  by_cases hr : (readR s).rule = 0
  · rw [if_pos hr] at h ⊢
    by_cases hs : (splitR (readR s).path).2 = true
    · rw [if_pos hs] at h ⊢
      by_cases hc : last ≠ [] ∧ 0 ≤ cmpP last (splitR (readR s).path).1
      · rw [if_pos hc] at h
        simp at h
      · rw [if_neg hc] at h ⊢
        cases hd : dirO t (splitR (readR s).path).1 with
        | none => rw [hd] at h; simp at h
        | some d =>
          rw [hd] at h
          simp only at h ⊢
          by_cases hk : (readR s).kind = 3 ∧ targetB (readR s).data = false
          · rw [if_pos hk] at h
            simp at h
          · rw [if_neg hk]
            obtain ⟨hp, hg, hdk⟩ := dir_some hd
            obtain ⟨r1, r2⟩ := row_size s
            obtain ⟨s1, _, _⟩ := split_size (readR s).path
            exact add_bulk hg (newF_bulk (fun y hy => by have := s1 y hy; omega) (readR s) r2)
    · rw [if_neg hs] at h
      simp at h
  · rw [if_neg hr] at h
    exact absurd h hr
theorem all_bulk : ∀ (ls : List (ByteArray × Bool)) (i : Nat) (t : File) (last : List ByteArray), (readAll ls i t last).1.bulk ≤ t.bulk + cost ls + 4
  | [], i, t, last => by rw [readAll]; simp only [cost, List.map_nil, List.sum_nil]; omega
  | l :: ls, i, t, last => by
    rw [readAll, cost_cons]
    split
    · have := all_bulk ls (i + 1) t last
      omega
    · split
      · rename_i h0
        have h1 := all_bulk ls (i + 1) (lineR t last l.1).2.1 (lineR t last l.1).2.2
        have h2 := line_bulk h0
        omega
      · have : zeroF.bulk = 4 := by rw [bulk_eq]; rfl
        simp only
        omega
theorem tree_bulk (s : ByteArray) : (treeR s).1.bulk ≤ 8 + 6 * s.size := by
  have h1 := all_bulk (linesP s.data.toList) 0 rootF []
  have h2 := (lines_cost _ s.data.toList (Nat.le_refl _)).1
  rw [← Lib.size_eq] at h2
  have h3 : rootF.bulk = 4 := by rw [bulk_eq]; rfl
  unfold treeR
  omega
end Go.Proofs.YtdnhjnlhmfajnaaDoor.G
