/- A file at a path, put and read: plain. -/
import Derived.Test.YthlcjjhfkldmhaaDoorTReadA
set_option linter.unusedVariables false
set_option linter.unusedSimpArgs false
namespace Go.Proofs.YthlcjjhfkldmhaaDoor.G
open Go.RowKit Go.Lib Go.Proofs.YthlcjjhfkldmhaaDoorW.PrintWords Go.Proofs.YthlcjjhfkldmhaaDoorW.PrintLast
set_option linter.unusedVariables false

theorem low_name {l l' : List File} (n : ByteArray) (h : l.map File.name = l'.map File.name) : lowB l n = lowB l' n := by
  have hh : ∀ l : List File, lowB l n = ((l.map File.name).takeWhile fun x => lessB x n).length := by
    intro l
    unfold lowB
    induction l with
    | nil => rfl
    | cons x l ih =>
      simp only [List.map_cons, List.takeWhile_cons]
      split
      · simp only [List.length_cons, ih]
      · rfl
  rw [hh, hh, h]
theorem set_names {l : List File} {i : Nat} {x x' : File} (hx : l[i]? = some x) (hn : x'.name = x.name) : (l.set i x').map File.name = l.map File.name := by
  apply List.ext_getElem?
  intro j
  rw [List.getElem?_map, List.getElem?_map, List.getElem?_set]
  split
  · rename_i h
    subst h
    rw [if_pos (List.getElem?_eq_some_iff.1 hx).1, hx]
    simp [hn]
  · rfl
theorem goP_full {f : File} {n : ByteArray} {q : List ByteArray} {d : File} {k : Int} (h : goP f (n :: q) = (k, some d)) : ∃ x, f.kind = 1 ∧ f.files[lowB f.files n]? = some x ∧ x.name = n ∧ goP x q = (k, some d) := by
  rw [goP] at h
  split at h
  · rename_i hk
    split at h
    · rename_i x hx
      split at h
      · rename_i he
        exact ⟨x, hk, hx, toList_inj.1 (eq_of_beq he), h⟩
      · cases h
    · cases h
  · cases h
theorem goP_mk {f : File} {n : ByteArray} {q : List ByteArray} {x : File} (hk : f.kind = 1) (hx : f.files[lowB f.files n]? = some x) (hn : x.name = n) : goP f (n :: q) = goP x q := by
  rw [goP, if_pos hk, hx]
  simp only
  rw [if_pos (by rw [hn]; simp)]
theorem goP_zero : ∀ (q : List ByteArray) (f d : File) (k : Int), goP f q = (k, some d) → k = 0
  | [], f, d, k, h => by rw [goP] at h; injection h with h _; exact h.symm
  | n :: q, f, d, k, h => by
    obtain ⟨x, _, _, _, hg⟩ := goP_full h
    exact goP_zero q x d k hg
theorem go_put : ∀ (q : List ByteArray) (f y d : File), goP f q = (0, some d) → y.name = d.name → goP (putP f q y) q = (0, some y)
  | [], f, y, d, h, hn => by rw [putP, goP]
  | n :: q, f, y, d, h, hn => by
    obtain ⟨x, hk, hx, hxn, hg⟩ := goP_full h
    have ih := go_put q x y d hg hn
    have hpn := putP_name q x y d 0 hg hn
    have hl : lowB (f.files.set (lowB f.files n) (putP x q y)) n = lowB f.files n := low_name n (set_names hx hpn)
    have hlt := (List.getElem?_eq_some_iff.1 hx).1
    rw [putP, hx]
    show goP { f with files := f.files.set (lowB f.files n) (putP x q y) } (n :: q) = _
    exact (goP_mk (f := { f with files := f.files.set (lowB f.files n) (putP x q y) }) (x := putP x q y) hk (by show (f.files.set (lowB f.files n) (putP x q y))[lowB (f.files.set (lowB f.files n) (putP x q y)) n]? = _; rw [hl, List.getElem?_set_self hlt]) (hpn.trans hxn)).trans ih
end Go.Proofs.YthlcjjhfkldmhaaDoor.G
