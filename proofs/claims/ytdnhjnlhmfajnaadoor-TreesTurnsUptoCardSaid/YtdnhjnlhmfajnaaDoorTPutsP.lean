/- What Put and Drop do, and what they leave alone: plain. -/
import Derived.Test.YtdnhjnlhmfajnaaDoorTGrow
import Derived.Test.YtdnhjnlhmfajnaaDoorTTurn
section
namespace Go.Proofs.YtdnhjnlhmfajnaaDoor.G
open Go.RowKit Go.Lib Go.Proofs.YtdnhjnlhmfajnaaDoorW.PrintWords Go.Proofs.YtdnhjnlhmfajnaaDoorW.PrintLast
set_option linter.unusedVariables false

theorem goP_full {f : File} {n : ByteArray} {q : List ByteArray} {d : File} {k : Int} (h : goP f (n :: q) = (k, some d)) : ∃ x, f.kind = 1 ∧ f.files[lowB f.files n]? = some x ∧ x.name = n ∧ goP x q = (k, some d) := by
  rw [goP] at h
  split at h
  · rename_i hk
    split at h
    · rename_i x hx
      split at h
      · rename_i he
        exact ⟨x, hk, hx, toList_inj.1 (eq_of_beq he), h⟩
      · cases h
    · cases h
  · cases h
theorem goP_mk {f : File} {n : ByteArray} {q : List ByteArray} {x : File} (hk : f.kind = 1) (hx : f.files[lowB f.files n]? = some x) (hn : x.name = n) : goP f (n :: q) = goP x q := by
  rw [goP, if_pos hk, hx]
  simp only
  rw [if_pos (by rw [hn]; simp)]
end Go.Proofs.YtdnhjnlhmfajnaaDoor.G
end
section
namespace Go.Proofs.YtdnhjnlhmfajnaaDoor.G
open Go.RowKit Go.Lib Go.Proofs.YtdnhjnlhmfajnaaDoorW.PrintWords Go.Proofs.YtdnhjnlhmfajnaaDoorW.PrintLast
set_option linter.unusedVariables false

theorem nameIs_iff {n : ByteArray} {x : File} : nameIs n x = true ↔ x.name = n := by
  unfold nameIs
  constructor
  · intro h
    exact toList_inj.1 (eq_of_beq h)
  · intro h
    rw [h]
    exact beq_self_eq_true _
theorem nameIs_ne {n : ByteArray} {x : File} (h : x.name ≠ n) : nameIs n x = false := by
  cases hh : nameIs n x
  · rfl
  · exact absurd (nameIs_iff.1 hh) h
theorem low_less {l : List File} {n : ByteArray} : ∀ x ∈ l.take (lowB l n), lessB x.name n = true := by
  intro x hx
  unfold lowB at hx
  rw [← List.prefix_iff_eq_take.1 (List.takeWhile_prefix _)] at hx
  exact List.all_eq_true.1 (List.all_takeWhile (p := fun x : File => lessB x.name n) (l := l)) x hx
theorem low_not {l : List File} {n : ByteArray} {x : File} (h : l[lowB l n]? = some x) : lessB x.name n = false := by
  have hd : l.drop (lowB l n) = l.dropWhile fun x => lessB x.name n := by
    unfold lowB
    have h1 := List.takeWhile_append_dropWhile (p := fun x : File => lessB x.name n) (l := l)
    have h2 : (l.takeWhile (fun x => lessB x.name n) ++ l.dropWhile (fun x => lessB x.name n)).drop (l.takeWhile fun x => lessB x.name n).length = l.dropWhile fun x => lessB x.name n := List.drop_left
    rwa [h1] at h2
  have h2 : (l.drop (lowB l n)).head? = some x := by rw [List.head?_drop]; exact h
  rw [hd] at h2
  have h3 := List.head?_dropWhile_not (fun x : File => lessB x.name n) l
  rw [h2] at h3
  simpa using h3
theorem less_ne {a b : ByteArray} (h : lessB a b = true) : a ≠ b := fun e => by
  rw [e, less_irrefl] at h
  cases h
/-- In a sorted folder the search finds the one of the name. -/
theorem low_find {l : List File} (hs : SortedN l) (n : ByteArray) : (match l[lowB l n]? with | some x => if x.name.toList == n.toList then some x else none | none => none) = l.find? (nameIs n) := by
  have hpre : ∀ x ∈ l.take (lowB l n), nameIs n x = false := fun x hx => nameIs_ne (less_ne (low_less x hx))
  have hsp : l = l.take (lowB l n) ++ l.drop (lowB l n) := (List.take_append_drop _ _).symm
  have h1 : l.find? (nameIs n) = (l.drop (lowB l n)).find? (nameIs n) := by
    conv => lhs; rw [hsp]
    rw [List.find?_append, List.find?_eq_none.2 (fun x hx => by simp [hpre x hx])]
    rfl
  rw [h1]
  cases hx : l[lowB l n]? with
  | none =>
    have hlen := List.getElem?_eq_none_iff.1 hx
    rw [List.drop_of_length_le hlen]
    rfl
  | some x =>
    obtain ⟨hlt, hxe⟩ := List.getElem?_eq_some_iff.1 hx
    have hd : l.drop (lowB l n) = x :: l.drop (lowB l n + 1) := by rw [List.drop_eq_getElem_cons hlt, hxe]
    rw [hd, List.find?_cons]
    change _ = match nameIs n x with | true => some x | false => _
    simp only
    cases hnm : nameIs n x
    · have h2 : (x.name.toList == n.toList) = false := hnm
      rw [if_neg (by rw [h2]; decide)]
      symm
      simp only
      refine List.find?_eq_none.2 fun y hy => ?_
      have hxn : x.name ≠ n := fun e => by rw [nameIs_iff.2 e] at hnm; cases hnm
      have hnx := less_total (low_not hx) hxn
      obtain ⟨j, hj, hyj⟩ := List.mem_iff_getElem.1 hy
      rw [List.getElem_drop] at hyj
      rw [List.length_drop] at hj
      have hxy := sorted_lt hs (i := lowB l n) (j := lowB l n + 1 + j) (by omega) (by omega)
      rw [hxe, hyj] at hxy
      have := less_ne (less_trans hnx hxy)
      simp [nameIs_ne (Ne.symm this)]
    · have h2 : (x.name.toList == n.toList) = true := hnm
      rw [if_pos h2]
/-- One step of the way, by the name. -/
theorem goP_find {f : File} (hs : SortF f) (n : ByteArray) (p : List ByteArray) : goP f (n :: p) = if f.kind = 1 then (match f.files.find? (nameIs n) with | some x => goP x p | none => (31, none)) else (32, none) := by
  rw [SortF_eq] at hs
  rw [goP, ← low_find hs.1 n]
  split
  · cases f.files[lowB f.files n]? with
    | none => rfl
    | some x => simp only; split <;> rfl
  · rfl
theorem found_at {l : List File} {n : ByteArray} (h : foundB l n = true) : ∃ y, l[lowB l n]? = some y ∧ y.name = n := by
  unfold foundB at h
  cases hx : l[lowB l n]? with
  | none => rw [hx] at h; cases h
  | some y => rw [hx] at h; exact ⟨y, rfl, toList_inj.1 (eq_of_beq h)⟩
theorem zero_bulk : zeroF.bulk = 4 := by
  rw [bulk_eq]
  simp only [zeroF, bulkL_nil]
  rfl
theorem get_bulk (t : File) (p : List ByteArray) : (getR t p).1.bulk ≤ t.bulk + 4 := by
  unfold getR
  split
  · split
    · rename_i k y h
      have := bulk_go p t y k h
      simp only
      omega
    · simp only [zero_bulk]
      omega
  · simp only [zero_bulk]
    omega
end Go.Proofs.YtdnhjnlhmfajnaaDoor.G
end
