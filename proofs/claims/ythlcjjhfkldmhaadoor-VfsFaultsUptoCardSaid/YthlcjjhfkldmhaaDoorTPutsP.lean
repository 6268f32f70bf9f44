/- What Put and Drop do, and what they leave alone: plain. -/
import Derived.Test.YthlcjjhfkldmhaaDoorTTurn
import Derived.Test.YthlcjjhfkldmhaaDoorTGoP
set_option linter.unusedVariables false
set_option linter.unusedSimpArgs false
namespace Go.Proofs.YthlcjjhfkldmhaaDoor.G
open Go.RowKit Go.Lib Go.Proofs.YthlcjjhfkldmhaaDoorW.PrintWords Go.Proofs.YthlcjjhfkldmhaaDoorW.PrintLast
set_option linter.unusedVariables false

theorem nameIs_iff {n : ByteArray} {x : File} : nameIs n x = true ↔ x.name = n := by
  unfold nameIs
  constructor
  · intro h
    exact toList_inj.1 (eq_of_beq h)
  · intro h
    rw [h]
    exact beq_self_eq_true _
theorem nameIs_ne {n : ByteArray} {x : File} (h : x.name ≠ n) : nameIs n x = false := by
  cases hh : nameIs n x
  · rfl
  · exact absurd (nameIs_iff.1 hh) h
theorem low_less {l : List File} {n : ByteArray} : ∀ x ∈ l.take (lowB l n), lessB x.name n = true := by
  intro x hx
  unfold lowB at hx
  rw [← List.prefix_iff_eq_take.1 (List.takeWhile_prefix _)] at hx
  exact List.all_eq_true.1 (List.all_takeWhile (p := fun x : File => lessB x.name n) (l := l)) x hx
theorem low_not {l : List File} {n : ByteArray} {x : File} (h : l[lowB l n]? = some x) : lessB x.name n = false := by
  have hd : l.drop (lowB l n) = l.dropWhile fun x => lessB x.name n := by
    unfold lowB
    have h1 := List.takeWhile_append_dropWhile (p := fun x : File => lessB x.name n) (l := l)
    have h2 : (l.takeWhile (fun x => lessB x.name n) ++ l.dropWhile (fun x => lessB x.name n)).drop (l.takeWhile fun x => lessB x.name n).length = l.dropWhile fun x => lessB x.name n := List.drop_left
    rwa [h1] at h2
  have h2 : (l.drop (lowB l n)).head? = some x := by rw [List.head?_drop]; exact h
  rw [hd] at h2
  have h3 := List.head?_dropWhile_not (fun x : File => lessB x.name n) l
  rw [h2] at h3
  simpa using h3
theorem less_ne {a b : ByteArray} (h : lessB a b = true) : a ≠ b := fun e => by
  rw [e, less_irrefl] at h
  cases h
/-- In a sorted folder the search finds the one of the name. -/
theorem low_find {l : List File} (hs : SortedN l) (n : ByteArray) : (match l[lowB l n]? with | some x => if x.name.toList == n.toList then some x else none | none => none) = l.find? (nameIs n) := by
  have hpre : ∀ x ∈ l.take (lowB l n), nameIs n x = false := fun x hx => nameIs_ne (less_ne (low_less x hx))
  have hsp : l = l.take (lowB l n) ++ l.drop (lowB l n) := (List.take_append_drop _ _).symm
  have h1 : l.find? (nameIs n) = (l.drop (lowB l n)).find? (nameIs n) := by
    conv => lhs; rw [hsp]
    rw [List.find?_append, List.find?_eq_none.2 (fun x hx => by simp [hpre x hx])]
    rfl
  rw [h1]
  cases hx : l[lowB l n]? with
  | none =>
    have hlen := List.getElem?_eq_none_iff.1 hx
    rw [List.drop_of_length_le hlen]
    rfl
  | some x =>
    obtain ⟨hlt, hxe⟩ := List.getElem?_eq_some_iff.1 hx
    have hd : l.drop (lowB l n) = x :: l.drop (lowB l n + 1) := by rw [List.drop_eq_getElem_cons hlt, hxe]
    rw [hd, List.find?_cons]
    change _ = match nameIs n x with | true => some x | false => _
    simp only
    cases hnm : nameIs n x
    · have h2 : (x.name.toList == n.toList) = false := hnm
      rw [if_neg (by rw [h2]; decide)]
      symm
      simp only
      refine List.find?_eq_none.2 fun y hy => ?_
      have hxn : x.name ≠ n := fun e => by rw [nameIs_iff.2 e] at hnm; cases hnm
      have hnx := less_total (low_not hx) hxn
      obtain ⟨j, hj, hyj⟩ := List.mem_iff_getElem.1 hy
      rw [List.getElem_drop] at hyj
      rw [List.length_drop] at hj
      have hxy := sorted_lt hs (i := lowB l n) (j := lowB l n + 1 + j) (by omega) (by omega)
      rw [hxe, hyj] at hxy
      have := less_ne (less_trans hnx hxy)
      simp [nameIs_ne (Ne.symm this)]
    · have h2 : (x.name.toList == n.toList) = true := hnm
      rw [if_pos h2]
/-- One step of the way, by the name. -/
theorem goP_find {f : File} (hs : SortF f) (n : ByteArray) (p : List ByteArray) : goP f (n :: p) = if f.kind = 1 then (match f.files.find? (nameIs n) with | some x => goP x p | none => (31, none)) else (32, none) := by
  rw [SortF_eq] at hs
  rw [goP, ← low_find hs.1 n]
  split
  · cases f.files[lowB f.files n]? with
    | none => rfl
    | some x => simp only; split <;> rfl
  · rfl
theorem go_app : ∀ (q r : List ByteArray) (t d : File), goP t q = (0, some d) → goP t (q ++ r) = goP d r
  | [], r, t, d, h => by
    rw [goP] at h
    injection h with _ h
    injection h with h
    rw [h]
    rfl
  | a :: q, r, t, d, h => by
    obtain ⟨x, hk, hx, hn, hg⟩ := goP_full h
    rw [List.cons_append, goP_mk hk hx hn]
    exact go_app q r x d hg
theorem go_sort : ∀ (q : List ByteArray) (t d : File) (k : Int), SortF t → goP t q = (k, some d) → SortF d
  | [], t, d, k, hs, h => by
    rw [goP] at h
    injection h with _ h
    injection h with h
    exact h ▸ hs
  | a :: q, t, d, k, hs, h => by
    obtain ⟨x, hk, hx, hn, hg⟩ := goP_full h
    rw [SortF_eq] at hs
    exact go_sort q x d k (SortL_mem.1 hs.2 _ (List.mem_of_getElem? hx)) hg
theorem ins_shape (l : List File) (x : File) : ∃ r, insF l x = l.take (lowB l x.name) ++ x :: r ∧ (r = if foundB l x.name = true then l.drop (lowB l x.name + 1) else l.drop (lowB l x.name)) := by
  unfold insF
  split
  · exact ⟨_, rfl, rfl⟩
  · exact ⟨_, rfl, rfl⟩
theorem ins_at (l : List File) (x : File) : (insF l x)[lowB l x.name]? = some x := by
  obtain ⟨r, h, _⟩ := ins_shape l x
  have hl : (l.take (lowB l x.name)).length = lowB l x.name := by rw [List.length_take, Nat.min_eq_left (low_le _ _)]
  rw [h, List.getElem?_append_right (by omega), hl, Nat.sub_self]
  rfl
theorem go_none0 : ∀ {p : List ByteArray} {t : File}, goP t p ≠ (0, none)
  | [], t, h => by
    rw [goP] at h
    injection h with _ h
    cases h
  | n :: p, t, h => by
    rw [goP] at h
    split at h
    · split at h
      · split at h
        · exact go_none0 h
        · injection h with h _
          cases h
      · injection h with h _
        cases h
    · injection h with h _
      cases h
end Go.Proofs.YthlcjjhfkldmhaaDoor.G
