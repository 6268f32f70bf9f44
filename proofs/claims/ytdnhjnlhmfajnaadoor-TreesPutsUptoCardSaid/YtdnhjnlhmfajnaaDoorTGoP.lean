/- A file at a path, put and read: plain. -/
import Derived.Test.YtdnhjnlhmfajnaaDoorTGrow
namespace Go.Proofs.YtdnhjnlhmfajnaaDoor.G
open Go.RowKit Go.Lib Go.Proofs.YtdnhjnlhmfajnaaDoorW.PrintWords Go.Proofs.YtdnhjnlhmfajnaaDoorW.PrintLast
set_option linter.unusedVariables false

theorem low_name {l l' : List File} (n : ByteArray) (h : l.map File.name = l'.map File.name) : lowB l n = lowB l' n := by
  have hh : ∀ l : List File, lowB l n = ((l.map File.name).takeWhile fun x => lessB x n).length := by
    intro l
    unfold lowB
    induction l with
    | nil => rfl
    | cons x l ih =>
      simp only [List.map_cons, List.takeWhile_cons]
      split
      · simp only [List.length_cons, ih]
      · rfl
  rw [hh, hh, h]
theorem set_names {l : List File} {i : Nat} {x x' : File} (hx : l[i]? = some x) (hn : x'.name = x.name) : (l.set i x').map File.name = l.map File.name := by
  apply List.ext_getElem?
  intro j
  rw [List.getElem?_map, List.getElem?_map, List.getElem?_set]
  split
  · rename_i h
    subst h
    rw [if_pos (List.getElem?_eq_some_iff.1 hx).1, hx]
    simp [hn]
  · rfl
theorem file_eta (f : File) : (⟨f.name, f.kind, f.data, f.files⟩ : File) = f := by cases f; rfl
theorem goP_full {f : File} {n : ByteArray} {q : List ByteArray} {d : File} {k : Int} (h : goP f (n :: q) = (k, some d)) : ∃ x, f.kind = 1 ∧ f.files[lowB f.files n]? = some x ∧ x.name = n ∧ goP x q = (k, some d) := by
  rw [goP] at h
  split at h
  · rename_i hk
    split at h
    · rename_i x hx
      split at h
      · rename_i he
        exact ⟨x, hk, hx, toList_inj.1 (eq_of_beq he), h⟩
      · cases h
    · cases h
  · cases h
theorem goP_mk {f : File} {n : ByteArray} {q : List ByteArray} {x : File} (hk : f.kind = 1) (hx : f.files[lowB f.files n]? = some x) (hn : x.name = n) : goP f (n :: q) = goP x q := by
  rw [goP, if_pos hk, hx]
  simp only
  rw [if_pos (by rw [hn]; simp)]
theorem goP_zero : ∀ (q : List ByteArray) (f d : File) (k : Int), goP f q = (k, some d) → k = 0
  | [], f, d, k, h => by rw [goP] at h; injection h with h _; exact h.symm
  | n :: q, f, d, k, h => by
    obtain ⟨x, _, _, _, hg⟩ := goP_full h
    exact goP_zero q x d k hg
theorem go_put : ∀ (q : List ByteArray) (f y d : File), goP f q = (0, some d) → y.name = d.name → goP (putP f q y) q = (0, some y)
  | [], f, y, d, h, hn => by rw [putP, goP]
  | n :: q, f, y, d, h, hn => by
    obtain ⟨x, hk, hx, hxn, hg⟩ := goP_full h
    have ih := go_put q x y d hg hn
    have hpn := putP_name q x y d 0 hg hn
    have hl : lowB (f.files.set (lowB f.files n) (putP x q y)) n = lowB f.files n := low_name n (set_names hx hpn)
    have hlt := (List.getElem?_eq_some_iff.1 hx).1
    rw [putP, hx]
    show goP { f with files := f.files.set (lowB f.files n) (putP x q y) } (n :: q) = _
    exact (goP_mk (f := { f with files := f.files.set (lowB f.files n) (putP x q y) }) (x := putP x q y) hk (by show (f.files.set (lowB f.files n) (putP x q y))[lowB (f.files.set (lowB f.files n) (putP x q y)) n]? = _; rw [hl, List.getElem?_set_self hlt]) (hpn.trans hxn)).trans ih
theorem put_put : ∀ (q : List ByteArray) (f y z d : File), goP f q = (0, some d) → y.name = d.name → putP (putP f q y) q z = putP f q z
  | [], f, y, z, d, h, hn => by simp only [putP]
  | n :: q, f, y, z, d, h, hn => by
    obtain ⟨x, hk, hx, hxn, hg⟩ := goP_full h
    have ih := put_put q x y z d hg hn
    have hpn := putP_name q x y d 0 hg hn
    have hl : lowB (f.files.set (lowB f.files n) (putP x q y)) n = lowB f.files n := low_name n (set_names hx hpn)
    have hlt := (List.getElem?_eq_some_iff.1 hx).1
    have e1 : putP f (n :: q) y = { f with files := f.files.set (lowB f.files n) (putP x q y) } := by rw [putP, hx]
    have e2 : putP f (n :: q) z = { f with files := f.files.set (lowB f.files n) (putP x q z) } := by rw [putP, hx]
    rw [e1, e2, putP]
    simp only
    rw [hl, List.getElem?_set_self hlt]
    simp only
    rw [ih, List.set_set]
theorem put_self : ∀ (q : List ByteArray) (f d : File), goP f q = (0, some d) → putP f q d = f
  | [], f, d, h => by
    rw [goP] at h
    injection h with _ h
    injection h with h
    rw [putP, h]
  | n :: q, f, d, h => by
    obtain ⟨x, hk, hx, hxn, hg⟩ := goP_full h
    rw [putP, hx]
    simp only
    rw [put_self q x d hg]
    obtain ⟨hlt, he⟩ := List.getElem?_eq_some_iff.1 hx
    have : f.files.set (lowB f.files n) x = f.files := by
      apply List.ext_getElem?
      intro j
      rw [List.getElem?_set]
      split
      · rename_i h
        rw [← h, hx]
      · rfl
    rw [this, file_eta]
theorem go_snoc : ∀ (q : List ByteArray) (n : ByteArray) (f d x : File), goP f q = (0, some d) → d.kind = 1 → d.files[lowB d.files n]? = some x → x.name = n → goP f (q ++ [n]) = (0, some x)
  | [], n, f, d, x, h, hk, hx, hn => by
    rw [goP] at h
    injection h with _ h
    injection h with h
    subst h
    rw [List.nil_append, goP_mk hk hx hn, goP]
  | m :: q, n, f, d, x, h, hk, hx, hn => by
    obtain ⟨z, hk2, hz, hzn, hg⟩ := goP_full h
    rw [List.cons_append, goP_mk hk2 hz hzn]
    exact go_snoc q n z d x hg hk hx hn
end Go.Proofs.YtdnhjnlhmfajnaaDoor.G
