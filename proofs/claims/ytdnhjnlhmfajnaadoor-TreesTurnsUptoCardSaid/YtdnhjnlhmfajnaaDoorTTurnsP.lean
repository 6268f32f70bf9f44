/- The document's find and with are ours, in a sorted tree: plain. -/
import Derived.Test.YtdnhjnlhmfajnaaDoorTPutsP
import Derived.Test.YtdnhjnlhmfajnaaDoorTRWith
namespace Go.Proofs.YtdnhjnlhmfajnaaDoor.G
open Go.RowKit Go.Lib Go.Proofs.YtdnhjnlhmfajnaaDoorW.PrintWords Go.Proofs.YtdnhjnlhmfajnaaDoorW.PrintLast
set_option linter.unusedVariables false
set_option linter.unusedSimpArgs false

theorem go_findR : ∀ (p : List ByteArray) (t : File), SortF t → goP t p = if (findR t p).2 = 0 then (0, some (findR t p).1) else ((findR t p).2, none)
  | [], t, hs => by rw [goP, findR]; rfl
  | n :: p, t, hs => by
    rw [goP_find hs, findR]
    split
    · cases hx : t.files.find? (nameIs n) with
      | none => rfl
      | some x =>
        simp only
        rw [SortF_eq] at hs
        exact go_findR p x (SortL_mem.1 hs.2 x (List.mem_of_find?_eq_some hx))
    · rfl
theorem get_findR {t : File} (hs : SortF t) (p : List ByteArray) : (match goP t p with | (_, some y) => ((y, 0) : File × Int) | (k, none) => (zeroF, k)) = if (findR t p).2 = 0 then ((findR t p).1, 0) else (zeroF, (findR t p).2) := by
  rw [go_findR p t hs]
  by_cases h : (findR t p).2 = 0
  · rw [if_pos h, if_pos h]
  · rw [if_neg h, if_neg h]
theorem withL_pre (gone : Bool) (f : File) (n : ByteArray) (last : Bool) (rec : File → File) (r : List File) (put : Bool) : ∀ (a : List File), (∀ y ∈ a, lessB y.name n = true) → withL gone f n last rec (a ++ r) put = a ++ withL gone f n last rec r put
  | [], _ => rfl
  | y :: a, h => by
    have hy := h y List.mem_cons_self
    have hb : Op.bytesLess y.name.toList n.toList = true := hy
    have hi : insB gone n last put y = false := by simp [insB, hb]
    have hc : chO last n rec y = [y] := by
      unfold chO
      rw [if_neg (by rw [nameIs_ne (less_ne hy)]; decide)]
    rw [List.cons_append, withL, hi, hc, Bool.or_false, withL_pre gone f n last rec r put a (fun z hz => h z (List.mem_cons_of_mem _ hz))]
    rfl
theorem withL_post (gone : Bool) (f : File) (n : ByteArray) (last : Bool) (rec : File → File) (put : Bool) (hp : (last && !put && !gone) = false) : ∀ (r : List File), (∀ y ∈ r, y.name ≠ n) → withL gone f n last rec r put = r
  | [], _ => by rw [withL, if_neg (by rw [hp]; decide)]
  | y :: r, h => by
    have hi : insB gone n last put y = false := by simp [insB, hp]
    have hc : chO last n rec y = [y] := by
      unfold chO
      rw [if_neg (by rw [nameIs_ne (h y List.mem_cons_self)]; decide)]
    rw [withL, hi, hc, Bool.or_false, withL_post gone f n last rec put hp r (fun z hz => h z (List.mem_cons_of_mem _ hz))]
    rfl
/-- What stands behind the place of a name has other names. -/
theorem drop_other {l : List File} (hs : SortedN l) {n : ByteArray} {y : File} {r : List File} (h : l.drop (lowB l n) = y :: r) : ∀ z ∈ r, z.name ≠ n := by
  intro z hz e
  have hlt : lowB l n < l.length := by
    rcases Nat.lt_or_ge (lowB l n) l.length with h0 | h0
    · exact h0
    · rw [List.drop_of_length_le h0] at h
      cases h
  have hd := List.drop_eq_getElem_cons hlt
  rw [h] at hd
  injection hd with h1 h2
  have hx : l[lowB l n]? = some y := by rw [List.getElem?_eq_getElem hlt, h1]
  rw [h2] at hz
  obtain ⟨j, hj, hzj⟩ := List.mem_iff_getElem.1 hz
  rw [List.getElem_drop] at hzj
  rw [List.length_drop] at hj
  have hyz := sorted_lt hs (i := lowB l n) (j := lowB l n + 1 + j) (by omega) (by omega)
  rw [← h1, hzj, e] at hyz
  rw [low_not hx] at hyz
  cases hyz
theorem with_ins (f : File) (rec : File → File) {l : List File} (hs : SortedN l) : withL false f f.name true rec l false = insF l f := by
  have hsp : l = l.take (lowB l f.name) ++ l.drop (lowB l f.name) := (List.take_append_drop _ _).symm
  have h1 : withL false f f.name true rec l false = l.take (lowB l f.name) ++ withL false f f.name true rec (l.drop (lowB l f.name)) false := by
    conv => lhs; rw [hsp]
    exact withL_pre _ _ _ _ _ _ _ _ low_less
  rw [h1]
  unfold insF
  cases hd : l.drop (lowB l f.name) with
  | nil =>
    have hlen := List.drop_eq_nil_iff.1 hd
    have hf : foundB l f.name = false := by
      unfold foundB
      rw [List.getElem?_eq_none hlen]
    rw [if_neg (by rw [hf]; decide)]
    rfl
  | cons y r =>
    have hlt : lowB l f.name < l.length := by
      rcases Nat.lt_or_ge (lowB l f.name) l.length with h0 | h0
      · exact h0
      · rw [List.drop_of_length_le h0] at hd
        cases hd
    have hdd := List.drop_eq_getElem_cons hlt
    rw [hd] at hdd
    injection hdd with e1 e2
    have hx : l[lowB l f.name]? = some y := by rw [List.getElem?_eq_getElem hlt, e1]
    have hnl : Op.bytesLess y.name.toList f.name.toList = false := low_not hx
    have hi : insB false f.name true false y = true := by simp [insB, hnl]
    have hr := withL_post false f f.name true rec true rfl r (drop_other hs hd)
    have hfb : foundB l f.name = nameIs f.name y := by
      unfold foundB
      rw [hx]
      rfl
    rw [withL, hi, Bool.or_true, hr, hfb, ← e2]
    unfold chO
    rw [if_pos rfl, if_pos rfl]
    cases nameIs f.name y <;> rfl
theorem with_del (f : File) (n : ByteArray) (rec : File → File) {l : List File} (hs : SortedN l) (hf : foundB l n = true) : withL true f n true rec l false = delF l n := by
  have hsp : l = l.take (lowB l n) ++ l.drop (lowB l n) := (List.take_append_drop _ _).symm
  have h1 : withL true f n true rec l false = l.take (lowB l n) ++ withL true f n true rec (l.drop (lowB l n)) false := by
    conv => lhs; rw [hsp]
    exact withL_pre _ _ _ _ _ _ _ _ low_less
  rw [h1]
  unfold delF
  obtain ⟨y, hy, hyn⟩ := found_at hf
  obtain ⟨hlt, hye⟩ := List.getElem?_eq_some_iff.1 hy
  have hd : l.drop (lowB l n) = y :: l.drop (lowB l n + 1) := by rw [List.drop_eq_getElem_cons hlt, hye]
  have hi : insB true n true false y = false := by simp [insB]
  have hc : chO true n rec y = [] := by
    unfold chO
    rw [if_pos (nameIs_iff.2 hyn), if_pos rfl]
  rw [hd, withL, hi, hc, Bool.or_false, withL_post true f n true rec false rfl _ (drop_other hs hd)]
  rfl
theorem with_set (gone : Bool) (f : File) (n : ByteArray) (rec : File → File) {l : List File} (hs : SortedN l) {y : File} (hy : l[lowB l n]? = some y) (hyn : y.name = n) : withL gone f n false rec l false = l.set (lowB l n) (rec y) := by
  have hsp : l = l.take (lowB l n) ++ l.drop (lowB l n) := (List.take_append_drop _ _).symm
  have h1 : withL gone f n false rec l false = l.take (lowB l n) ++ withL gone f n false rec (l.drop (lowB l n)) false := by
    conv => lhs; rw [hsp]
    exact withL_pre _ _ _ _ _ _ _ _ low_less
  obtain ⟨hlt, hye⟩ := List.getElem?_eq_some_iff.1 hy
  have hd : l.drop (lowB l n) = y :: l.drop (lowB l n + 1) := by rw [List.drop_eq_getElem_cons hlt, hye]
  have hi : insB gone n false false y = false := by simp [insB]
  have hc : chO false n rec y = [rec y] := by
    unfold chO
    rw [if_pos (nameIs_iff.2 hyn), if_neg (by decide)]
  rw [h1, hd, withL, hi, hc, Bool.or_false, withL_post gone f n false rec false rfl _ (drop_other hs hd), List.set_eq_take_append_cons_drop, if_pos hlt]
  rfl
/-- with, at a place whose folder is there. -/
theorem with_put : ∀ (q : List ByteArray) (t d f : File), SortF t → goP t q = (0, some d) → withR false f (q ++ [f.name]) t = putP t q { d with files := insF d.files f }
  | [], t, d, f, hs, h => by
    rw [goP] at h
    injection h with _ h
    injection h with h
    subst h
    rw [SortF_eq] at hs
    rw [List.nil_append, withR, putP, show ([] : List ByteArray).isEmpty = true from rfl, with_ins f _ hs.1]
  | a :: q, t, d, f, hs, h => by
    obtain ⟨x, hk, hx, hn, hg⟩ := goP_full h
    rw [SortF_eq] at hs
    have hxs := SortL_mem.1 hs.2 x (List.mem_of_getElem? hx)
    have hne : (q ++ [f.name]).isEmpty = false := by cases q <;> rfl
    rw [List.cons_append, withR, hne, with_set false f a _ hs.1 hx hn, with_put q x d f hxs hg, putP, hx]
theorem with_drop (f : File) : ∀ (q : List ByteArray) (t d : File) (n : ByteArray), SortF t → goP t q = (0, some d) → foundB d.files n = true → withR true f (q ++ [n]) t = putP t q { d with files := delF d.files n }
  | [], t, d, n, hs, h, hf => by
    rw [goP] at h
    injection h with _ h
    injection h with h
    subst h
    rw [SortF_eq] at hs
    rw [List.nil_append, withR, putP, show ([] : List ByteArray).isEmpty = true from rfl, with_del f n _ hs.1 hf]
  | a :: q, t, d, n, hs, h, hf => by
    obtain ⟨x, hk, hx, hn, hg⟩ := goP_full h
    rw [SortF_eq] at hs
    have hxs := SortL_mem.1 hs.2 x (List.mem_of_getElem? hx)
    have hne : (q ++ [n]).isEmpty = false := by cases q <;> rfl
    rw [List.cons_append, withR, hne, with_set true f a _ hs.1 hx hn, with_drop f q x d n hxs hg hf, putP, hx]
end Go.Proofs.YtdnhjnlhmfajnaaDoor.G
