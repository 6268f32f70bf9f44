/- The law TreesPuts: plain and walked (merged by wip/tools/merge.py) -/
import Derived.Test.YtdnhjnlhmfajnaaDoorTTurn
import Derived.Test.YtdnhjnlhmfajnaaDoorTGoP
import Derived.Test.YtdnhjnlhmfajnaaDoorTLives
import Derived.Test.YtdnhjnlhmfajnaaDoorTPut
import Derived.Test.YtdnhjnlhmfajnaaDoorTDrop
import Derived.Test.YtdnhjnlhmfajnaaDoorTFrame
namespace Go.Proofs.YtdnhjnlhmfajnaaDoor.G
open Go.RowKit Go.Lib Go.Proofs.YtdnhjnlhmfajnaaDoorW.PrintWords Go.Proofs.YtdnhjnlhmfajnaaDoorW.PrintLast
set_option linter.unusedVariables false
set_option linter.unusedSimpArgs false

section
theorem nameIs_iff {n : ByteArray} {x : File} : nameIs n x = true ↔ x.name = n := by
  unfold nameIs
  constructor
  · intro h
    exact toList_inj.1 (eq_of_beq h)
  · intro h
    rw [h]
    exact beq_self_eq_true _
theorem nameIs_ne {n : ByteArray} {x : File} (h : x.name ≠ n) : nameIs n x = false := by
  cases hh : nameIs n x
  · rfl
  · exact absurd (nameIs_iff.1 hh) h
theorem low_less {l : List File} {n : ByteArray} : ∀ x ∈ l.take (lowB l n), lessB x.name n = true := by
  intro x hx
  unfold lowB at hx
  rw [← List.prefix_iff_eq_take.1 (List.takeWhile_prefix _)] at hx
  exact List.all_eq_true.1 (List.all_takeWhile (p := fun x : File => lessB x.name n) (l := l)) x hx
theorem low_not {l : List File} {n : ByteArray} {x : File} (h : l[lowB l n]? = some x) : lessB x.name n = false := by
  have hd : l.drop (lowB l n) = l.dropWhile fun x => lessB x.name n := by
    unfold lowB
    have h1 := List.takeWhile_append_dropWhile (p := fun x : File => lessB x.name n) (l := l)
    have h2 : (l.takeWhile (fun x => lessB x.name n) ++ l.dropWhile (fun x => lessB x.name n)).drop (l.takeWhile fun x => lessB x.name n).length = l.dropWhile fun x => lessB x.name n := List.drop_left
    rwa [h1] at h2
  have h2 : (l.drop (lowB l n)).head? = some x := by rw [List.head?_drop]; exact h
  rw [hd] at h2
  have h3 := List.head?_dropWhile_not (fun x : File => lessB x.name n) l
  rw [h2] at h3
  simpa using h3
theorem less_ne {a b : ByteArray} (h : lessB a b = true) : a ≠ b := fun e => by
  rw [e, less_irrefl] at h
  cases h
/-- In a sorted folder the search finds the one of the name. -/
theorem low_find {l : List File} (hs : SortedN l) (n : ByteArray) : (match l[lowB l n]? with | some x => if x.name.toList == n.toList then some x else none | none => none) = l.find? (nameIs n) := by
  have hpre : ∀ x ∈ l.take (lowB l n), nameIs n x = false := fun x hx => nameIs_ne (less_ne (low_less x hx))
  have hsp : l = l.take (lowB l n) ++ l.drop (lowB l n) := (List.take_append_drop _ _).symm
  have h1 : l.find? (nameIs n) = (l.drop (lowB l n)).find? (nameIs n) := by
    conv => lhs; rw [hsp]
    rw [List.find?_append, List.find?_eq_none.2 (fun x hx => by simp [hpre x hx])]
    rfl
  rw [h1]
  cases hx : l[lowB l n]? with
  | none =>
    have hlen := List.getElem?_eq_none_iff.1 hx
    rw [List.drop_of_length_le hlen]
    rfl
  | some x =>
    obtain ⟨hlt, hxe⟩ := List.getElem?_eq_some_iff.1 hx
    have hd : l.drop (lowB l n) = x :: l.drop (lowB l n + 1) := by rw [List.drop_eq_getElem_cons hlt, hxe]
    rw [hd, List.find?_cons]
    change _ = match nameIs n x with | true => some x | false => _
    simp only
    cases hnm : nameIs n x
    · have h2 : (x.name.toList == n.toList) = false := hnm
      rw [if_neg (by rw [h2]; decide)]
      symm
      simp only
      refine List.find?_eq_none.2 fun y hy => ?_
      have hxn : x.name ≠ n := fun e => by rw [nameIs_iff.2 e] at hnm; cases hnm
      have hnx := less_total (low_not hx) hxn
      obtain ⟨j, hj, hyj⟩ := List.mem_iff_getElem.1 hy
      rw [List.getElem_drop] at hyj
      rw [List.length_drop] at hj
      have hxy := sorted_lt hs (i := lowB l n) (j := lowB l n + 1 + j) (by omega) (by omega)
      rw [hxe, hyj] at hxy
      have := less_ne (less_trans hnx hxy)
      simp [nameIs_ne (Ne.symm this)]
    · have h2 : (x.name.toList == n.toList) = true := hnm
      rw [if_pos h2]
/-- One step of the way, by the name. -/
theorem goP_find {f : File} (hs : SortF f) (n : ByteArray) (p : List ByteArray) : goP f (n :: p) = if f.kind = 1 then (match f.files.find? (nameIs n) with | some x => goP x p | none => (31, none)) else (32, none) := by
  rw [SortF_eq] at hs
  rw [goP, ← low_find hs.1 n]
  split
  · cases f.files[lowB f.files n]? with
    | none => rfl
    | some x => simp only; split <;> rfl
  · rfl
theorem go_app : ∀ (q r : List ByteArray) (t d : File), goP t q = (0, some d) → goP t (q ++ r) = goP d r
  | [], r, t, d, h => by
    rw [goP] at h
    injection h with _ h
    injection h with h
    rw [h]
    rfl
  | a :: q, r, t, d, h => by
    obtain ⟨x, hk, hx, hn, hg⟩ := goP_full h
    rw [List.cons_append, goP_mk hk hx hn]
    exact go_app q r x d hg
theorem go_sort : ∀ (q : List ByteArray) (t d : File) (k : Int), SortF t → goP t q = (k, some d) → SortF d
  | [], t, d, k, hs, h => by
    rw [goP] at h
    injection h with _ h
    injection h with h
    exact h ▸ hs
  | a :: q, t, d, k, hs, h => by
    obtain ⟨x, hk, hx, hn, hg⟩ := goP_full h
    rw [SortF_eq] at hs
    exact go_sort q x d k (SortL_mem.1 hs.2 _ (List.mem_of_getElem? hx)) hg
theorem low_cut {a r : List File} {x : File} (h : ∀ y ∈ a, lessB y.name x.name = true) : lowB (a ++ x :: r) x.name = a.length := by
  unfold lowB
  rw [List.takeWhile_append_of_pos h, List.takeWhile_cons_of_neg (by rw [less_irrefl]; decide), List.append_nil]
theorem ins_shape (l : List File) (x : File) : ∃ r, insF l x = l.take (lowB l x.name) ++ x :: r ∧ (r = if foundB l x.name = true then l.drop (lowB l x.name + 1) else l.drop (lowB l x.name)) := by
  unfold insF
  split
  · exact ⟨_, rfl, rfl⟩
  · exact ⟨_, rfl, rfl⟩
theorem low_ins (l : List File) (x : File) : lowB (insF l x) x.name = lowB l x.name := by
  obtain ⟨r, h, _⟩ := ins_shape l x
  rw [h, low_cut low_less, List.length_take, Nat.min_eq_left (low_le _ _)]
theorem ins_at (l : List File) (x : File) : (insF l x)[lowB l x.name]? = some x := by
  obtain ⟨r, h, _⟩ := ins_shape l x
  have hl : (l.take (lowB l x.name)).length = lowB l x.name := by rw [List.length_take, Nat.min_eq_left (low_le _ _)]
  rw [h, List.getElem?_append_right (by omega), hl, Nat.sub_self]
  rfl
theorem del_ins (l : List File) (x : File) : delF (insF l x) x.name = if foundB l x.name = true then delF l x.name else l := by
  obtain ⟨r, h, hr⟩ := ins_shape l x
  have hl : (l.take (lowB l x.name)).length = lowB l x.name := by rw [List.length_take, Nat.min_eq_left (low_le _ _)]
  unfold delF
  rw [low_ins, h, List.take_append_of_le_length (by omega), List.take_of_length_le (by omega), show l.take (lowB l x.name) ++ x :: r = (l.take (lowB l x.name) ++ [x]) ++ r by simp, List.drop_left' (by rw [List.length_append, hl]; rfl), hr]
  split
  · rfl
  · exact List.take_append_drop _ _
theorem found_at {l : List File} {n : ByteArray} (h : foundB l n = true) : ∃ y, l[lowB l n]? = some y ∧ y.name = n := by
  unfold foundB at h
  cases hx : l[lowB l n]? with
  | none => rw [hx] at h; cases h
  | some y => rw [hx] at h; exact ⟨y, rfl, toList_inj.1 (eq_of_beq h)⟩
theorem find_ins (l : List File) (x : File) (m : ByteArray) (hm : x.name ≠ m) : (insF l x).find? (nameIs m) = l.find? (nameIs m) := by
  obtain ⟨r, h, hr⟩ := ins_shape l x
  rw [h, List.find?_append, List.find?_cons, nameIs_ne hm]
  simp only
  rw [← List.find?_append, hr]
  split
  · rename_i hf
    obtain ⟨y, hy, hyn⟩ := found_at hf
    obtain ⟨hlt, hye⟩ := List.getElem?_eq_some_iff.1 hy
    have hd : l.drop (lowB l x.name) = y :: l.drop (lowB l x.name + 1) := by rw [List.drop_eq_getElem_cons hlt, hye]
    conv => rhs; rw [← List.take_append_drop (lowB l x.name) l]
    rw [hd, List.find?_append, List.find?_append, List.find?_cons, nameIs_ne (hyn ▸ hm)]
  · rw [List.take_append_drop]
theorem find_set {p : File → Bool} : ∀ {l : List File} {i : Nat} {x x' : File}, l[i]? = some x → p x = false → p x' = false → (l.set i x').find? p = l.find? p
  | [], i, x, x', h, _, _ => by simp at h
  | y :: l, 0, x, x', h, h1, h2 => by
    obtain rfl : y = x := by simpa using h
    rw [List.set_cons_zero, List.find?_cons, List.find?_cons, h1, h2]
  | y :: l, i + 1, x, x', h, h1, h2 => by
    rw [List.set_cons_succ, List.find?_cons, List.find?_cons, find_set (by simpa using h) h1 h2]
/-- A way that parts from the place that was turned. -/
theorem go_apart : ∀ (q : List ByteArray) (t d x : File) (q' : List ByteArray), SortF t → SortF (putP t q { d with files := insF d.files x }) → goP t q = (0, some d) → ¬ (q ++ [x.name]) <+: q' → ¬ q' <+: (q ++ [x.name]) → goP (putP t q { d with files := insF d.files x }) q' = goP t q'
  | q, t, d, x, [], _, _, _, _, h => absurd (List.nil_prefix) h
  | [], t, d, x, m :: r, hs, hu, hg, h1, h2 => by
    rw [goP] at hg
    injection hg with _ hg
    injection hg with hg
    subst hg
    rw [putP] at hu ⊢
    have hm : x.name ≠ m := fun e => h1 (by rw [e]; exact ⟨r, rfl⟩)
    rw [goP_find hu, goP_find hs]
    simp only
    rw [find_ins _ _ _ hm]
  | a :: q, t, d, x, m :: r, hs, hu, hg, h1, h2 => by
    obtain ⟨y, hk, hy, hn, hg2⟩ := goP_full hg
    rw [goP_find hu, goP_find hs]
    rw [putP, hy] at hu ⊢
    simp only at hu ⊢
    rw [SortF_eq] at hs hu
    simp only at hu
    have hlt := (List.getElem?_eq_some_iff.1 hy).1
    have hset : (t.files.set (lowB t.files a) (putP y q { d with files := insF d.files x }))[lowB t.files a]? = some (putP y q { d with files := insF d.files x }) := by rw [List.getElem?_set_self hlt]
    have hn' : (putP y q { d with files := insF d.files x }).name = a := by
      have h := putP_name q y { d with files := insF d.files x } d 0 hg2 rfl
      exact h.trans hn
    by_cases hma : m = a
    · subst hma
      have hlow : lowB (t.files.set (lowB t.files m) (putP y q { d with files := insF d.files x })) m = lowB t.files m := low_name m (set_names hy (hn'.trans hn.symm))
      have f1 := low_find hs.1 m
      have f2 := low_find hu.1 m
      rw [hlow, hset] at f2
      rw [hy] at f1
      simp only at f1 f2
      rw [if_pos (by rw [hn]; exact beq_self_eq_true _)] at f1
      rw [if_pos (by rw [hn']; exact beq_self_eq_true _)] at f2
      rw [← f1, ← f2, if_pos hk, if_pos hk]
      simp only
      refine go_apart q y d x r (SortL_mem.1 hs.2 _ (List.mem_of_getElem? hy)) (SortL_mem.1 hu.2 _ (List.mem_of_getElem? hset)) hg2 (fun e => h1 ?_) (fun e => h2 ?_)
      · rw [List.cons_append]
        exact (List.prefix_cons_inj m).2 e
      · rw [List.cons_append]
        exact (List.prefix_cons_inj m).2 e
    · rw [find_set hy (nameIs_ne (by rw [hn]; exact Ne.symm hma)) (nameIs_ne (by rw [hn']; exact Ne.symm hma))]
theorem zero_bulk : zeroF.bulk = 4 := by
  rw [bulk_eq]
  simp only [zeroF, bulkL_nil]
  rfl
theorem get_bulk (t : File) (p : List ByteArray) : (getR t p).1.bulk ≤ t.bulk + 4 := by
  unfold getR
  split
  · split
    · rename_i k y h
      have := bulk_go p t y k h
      simp only
      omega
    · simp only [zero_bulk]
      omega
  · simp only [zero_bulk]
    omega
theorem go_none0 : ∀ {p : List ByteArray} {t : File}, goP t p ≠ (0, none)
  | [], t, h => by
    rw [goP] at h
    injection h with _ h
    cases h
  | n :: p, t, h => by
    rw [goP] at h
    split at h
    · split at h
      · split at h
        · exact go_none0 h
        · injection h with h _
          cases h
      · injection h with h _
        cases h
    · injection h with h _
      cases h
theorem get_zero {t : File} {p : List ByteArray} (h : (getR t p).2 = 0) : rightT t = true ∧ goP t p = (0, some (getR t p).1) := by
  unfold getR at h ⊢
  split at h
  · rename_i hr
    refine ⟨hr, ?_⟩
    rw [if_pos hr]
    cases hg : goP t p with
    | mk k o =>
      cases o with
      | some y => rw [goP_zero p t y k hg]
      | none =>
        rw [hg] at h
        simp only at h
        exact absurd hg (by rw [h]; exact go_none0)
  · simp at h
theorem putR_zero {t f : File} {q : List ByteArray} {n : ByteArray} (h : (putR t q n f).2 ≠ 0) : (putR t q n f).1 = zeroF := by
  unfold putR at h ⊢
  split
  · rename_i hr
    rw [if_pos hr] at h
    split
    · rename_i hg
      rw [hg] at h
      simp only at h
      split
      · rename_i hk
        rw [if_pos hk] at h
        split
        · rename_i hu
          rw [if_pos hu] at h
          exact absurd rfl h
        · rfl
      · rfl
    · rfl
  · rfl
theorem puts_law {t f : File} {q : List ByteArray} {n : ByteArray} (h : (putR t q n f).2 = 0) : ∃ u e, putR t q n f = (u, 0) ∧ u.bulk ≤ t.bulk + f.bulk + n.size ∧ e.bulk ≤ t.bulk ∧ getR u (q ++ [n]) = (nameF f n, 0) ∧ dropR u q n = (e, 0) ∧
    ((getR t (q ++ [n])).2 = 0 → dropR t q n = (e, 0) ∧ (getR t (q ++ [n])).1.name = n) ∧ ((getR t (q ++ [n])).2 ≠ 0 → e = t) ∧ ∀ r, ¬ (q ++ [n]) <+: r → ¬ r <+: (q ++ [n]) → getR u r = getR t r := by
  unfold putR at h
  split at h
  · rename_i hr
    cases hg : goP t q with
    | mk k o =>
    rw [hg] at h
    cases o with
    | none =>
      simp only at h
      exact absurd hg (by rw [h]; exact go_none0)
    | some d =>
    simp only at h
    obtain rfl := goP_zero q t d k hg
    split at h
    · rename_i hk
      split at h
      · rename_i hu
        have hput : putR t q n f = (putP t q { d with files := insF d.files (nameF f n) }, 0) := by
          unfold putR
          rw [if_pos hr, hg]
          simp only
          rw [if_pos hk, if_pos hu]
        have hgu : goP (putP t q { d with files := insF d.files (nameF f n) }) q = (0, some { d with files := insF d.files (nameF f n) }) := go_put q t { d with files := insF d.files (nameF f n) } d hg rfl
        have hlow : lowB (insF d.files (nameF f n)) n = lowB d.files n := low_ins d.files (nameF f n)
        have hat : (insF d.files (nameF f n))[lowB d.files n]? = some (nameF f n) := ins_at d.files (nameF f n)
        have hgx : goP (putP t q { d with files := insF d.files (nameF f n) }) (q ++ [n]) = (0, some (nameF f n)) :=
          go_snoc q n _ { d with files := insF d.files (nameF f n) } (nameF f n) hgu hk (by simp only; rw [hlow]; exact hat) rfl
        have hdel : delF (insF d.files (nameF f n)) n = if foundB d.files n = true then delF d.files n else d.files := del_ins d.files (nameF f n)
        have hdu : dropR (putP t q { d with files := insF d.files (nameF f n) }) q n = (putP t q { d with files := if foundB d.files n = true then delF d.files n else d.files }, 0) := by
          unfold dropR
          rw [if_pos hu, hgx, hgu]
          simp only
          rw [hdel, put_put q t { d with files := insF d.files (nameF f n) } _ d hg rfl]
        have hb1 := bulk_putX (x := nameF f n) hg
        have hb2 := bulk_name f n
        have hb3 : (putP t q { d with files := if foundB d.files n = true then delF d.files n else d.files }).bulk ≤ t.bulk := by
          split
          · exact bulk_dropX hg
          · have e1 : (⟨d.name, d.kind, d.data, d.files⟩ : File) = d := file_eta d
            rw [e1, put_self q t d hg]
            exact Nat.le_refl _
        have hfnd : foundB d.files n = true → ∃ y, goP t (q ++ [n]) = (0, some y) ∧ y.name = n := fun hf => by
          obtain ⟨y, hy, hyn⟩ := found_at hf
          exact ⟨y, go_snoc q n t d y hg hk hy hyn, hyn⟩
        have hnot : foundB d.files n = false → goP t (q ++ [n]) = (31, none) := fun hf => by
          rw [go_app q [n] t d hg, goP, if_pos hk]
          unfold foundB at hf
          cases hx : d.files[lowB d.files n]? with
          | none => rfl
          | some x =>
            rw [hx] at hf
            simp only at hf ⊢
            rw [if_neg (by rw [hf]; decide)]
        refine ⟨_, _, hput, by omega, hb3, by unfold getR; rw [if_pos hu, hgx], hdu, fun h0 => ?_, fun h0 => ?_, fun r h1 h2 => ?_⟩
        · obtain ⟨_, hgt⟩ := get_zero h0
          cases hf : foundB d.files n
          · rw [hnot hf] at hgt
            injection hgt with e1 _
            cases e1
          · obtain ⟨y, hy, hyn⟩ := hfnd hf
            rw [hy] at hgt
            injection hgt with _ e2
            injection e2 with e2
            refine ⟨?_, by rw [← e2]; exact hyn⟩
            unfold dropR
            rw [if_pos hr, hy, hg]
            simp only [if_true]
        · cases hf : foundB d.files n
          · rw [if_neg (by decide)]
            have e1 : (⟨d.name, d.kind, d.data, d.files⟩ : File) = d := file_eta d
            rw [e1, put_self q t d hg]
          · obtain ⟨y, hy, hyn⟩ := hfnd hf
            exfalso
            apply h0
            unfold getR
            rw [if_pos hr, hy]
        · unfold getR
          rw [if_pos hu, if_pos hr, go_apart q t d (nameF f n) r (right_sort hr) (right_sort hu) hg h1 h2]
      · simp at h
    · simp at h
  · simp at h
end
section
theorem eq_upto {α : Type} {a b : List α} (hl : a.length = b.length) (h : ∀ j (h1 : j < a.length) (h2 : j < b.length), a[j] = b[j]) : a = b := List.ext_getElem hl h
set_option maxHeartbeats 4000000 in
set_option maxRecDepth 100000 in
theorem rpaths_calls (A : Option Addr) (c : Nat) (a : List ByteArray) (B : Option Addr) (d : Nat) (b : List ByteArray) (w : World) (hr : Kd.C Kd.string w A a.length a) (hc : a.length ≤ c) (hs : Kd.C Kd.string w B b.length b) (hd : b.length ≤ d) (hl : a.length ≤ 8796093022208) :
    Calls Tryd.prog 16 #[.slice A a.length c, .slice B b.length d] w fun e w' => e = .returned (.bool (decide (a = b))) ∧ ∃ n, w' = w.drewN n := by
  have HR := Lib.hid hr
  have HS := Lib.hid hs
  obtain ⟨r, hrr⟩ : ∃ r, decide (a = b) = r := ⟨_, rfl⟩
  rw [hrr]
  have HE := Lib.hid hrr
  clear hr hs hrr
  by_cases hlen : a.length = b.length
  · have hz : ((a.length : Int) != (b.length : Int)) = false := by simp [hlen]
    have HLN := Lib.hid hlen
    clear hlen
    go_enter Tryd.func16, Tryd.ntmps16
    go_wp2_with fail
    go_loopw [13] (fun i wr => ∃ k n : Nat, k ≤ a.length ∧ i = .int .i64 k ∧ wr = w.drewN n ∧ Hid (∀ j (h1 : j < a.length) (h2 : j < b.length), j < k → a[j] = b[j])) (fun i _ => a.length - (RowKit.intOf i).toNat)
    case atStart => exact ⟨0, 0, by omega, rfl, rfl, Lib.hid (fun j _ _ hj => by omega)⟩
    case round =>
      obtain ⟨k, n, hk, rfl, rfl, HA⟩ := hrel
      by_cases q1 : k < a.length
      · have q2 : k < b.length := by have := HLN.out; omega
        obtain ⟨ad, rfl, hx⟩ := Kd.at_string HR.out (k : Int) (by omega) (by omega)
        obtain ⟨bd, rfl, hy⟩ := Kd.at_string HS.out (k : Int) (by omega) (by omega)
        rw [Int.toNat_natCast] at hx hy
        have hxe : rdOf ByteArray.empty a (k : Int) = a[k] := by simp [rdOf, q1]
        have hye : rdOf ByteArray.empty b (k : Int) = b[k] := by simp [rdOf, q2]
        rw [hxe] at hx
        rw [hye] at hy
        have HK : Hid (a[k] = b[k] → ∀ j (h1 : j < a.length) (h2 : j < b.length), j < k + 1 → a[j] = b[j]) := Lib.hid (fun he j h1 h2 h3 => by
          by_cases hj : j < k
          · exact HA.out j h1 h2 hj
          · obtain rfl : j = k := by omega
            exact he)
        have HF : Hid (a[k] ≠ b[k] → a ≠ b) := Lib.hid (fun h e => h (by subst e; rfl))
        clear hxe hye HA
        generalize a[k] = x at *
        generalize b[k] = y at *
        have g1 : (k : Int) < (a.length : Int) := by omega
        have g2 : (k : Int) < (b.length : Int) := by omega
        by_cases q3 : x = y
        · have z3 : (x.toList == y.toList) = true := beq_iff_eq.2 (toList_inj.2 q3)
          have z4 : (x.toList != y.toList) = false := by rw [bne, z3]; rfl
          have H3 := Lib.hid q3
          clear q3
          go_wp2_with fail
          go_quiet (fail)
          go_wp2_with fail
          go_roundw
          case rel => exact ⟨k + 1, _, by omega, by go_num, by first | rfl | (simp only [World.drewN_drewN]; rfl), Lib.hid (HK.out H3.out)⟩
          case measure => simp [RowKit.intOf]; omega
        · have z3 : (x.toList == y.toList) = false := beq_eq_false_iff_ne.2 (fun h => q3 (toList_inj.1 h))
          have z4 : (x.toList != y.toList) = true := by rw [bne, z3]; rfl
          have H3 := Lib.hid (HF.out q3)
          clear q3
          have hr := HE.out
          rw [decide_eq_false H3.out] at hr
          have HR2 := Lib.hid hr
          clear hr
          go_wp2_with fail
          go_quiet (fail)
          go_wp2_with fail
          go_ret
          exact ⟨by rw [← HR2.out]; rfl, _, by first | rfl | (simp only [World.drewN_drewN]; rfl)⟩
      · obtain rfl : k = a.length := by omega
        have hr := HE.out
        rw [decide_eq_true (eq_upto HLN.out fun j h1 h2 => HA.out j h1 h2 h1)] at hr
        have HR2 := Lib.hid hr
        clear hr q1
        go_wp2_with fail
        go_ret
        exact ⟨by rw [← HR2.out]; rfl, n, rfl⟩
  · have hz : ((a.length : Int) != (b.length : Int)) = true := by rw [bne_iff_ne]; omega
    have hr := HE.out
    rw [decide_eq_false (fun e => hlen (congrArg List.length e))] at hr
    have HR2 := Lib.hid hr
    clear hr hlen
    go_enter Tryd.func16, Tryd.ntmps16
    go_wp2_with fail
    go_ret
    exact ⟨by rw [← HR2.out]; rfl, 0, rfl⟩


set_option maxHeartbeats 4000000 in
set_option maxRecDepth 100000 in
theorem lbelow_calls (Ap : Option Addr) (cp : Nat) (p : List ByteArray) (Aq : Option Addr) (cq : Nat) (q : List ByteArray) (w : World) (hp : Kd.C Kd.string w Ap p.length p) (hcp : p.length ≤ cp) (hq : Kd.C Kd.string w Aq q.length q) (hcq : q.length ≤ cq) (hl : p.length ≤ 8796093022208) (hl2 : q.length ≤ 8796093022208) :
    Calls Tryd.prog 26 #[.slice Ap p.length cp, .slice Aq q.length cq] w fun e w' => e = .returned (.bool (decide (p <+: q))) ∧ Below w.heap.size w w' := by
  by_cases hle : p.length ≤ q.length
  · have h1 := Kd.C_take hq (m := p.length) hle
    have htl : (q.take p.length).length = p.length := by rw [List.length_take]; omega
    have HPA : Hid (Calls Tryd.prog 16 #[.slice Ap p.length cp, .slice Aq p.length cq] w fun e w' => e = .returned (.bool (decide (p <+: q))) ∧ Below w.heap.size w w') := Lib.hid (by
      have h2 := rpaths_calls Ap cp p Aq cq (q.take p.length) w hp hcp h1 (by omega) hl
      rw [htl] at h2
      refine h2.mono ?_
      rintro e w' ⟨rfl, n, rfl⟩
      refine ⟨?_, bdrewN (Below.refl _ _) n⟩
      congr 2
      exact decide_eq_decide.2 List.prefix_iff_eq_take.symm)
    have g1 : (p.length : Int) ≤ (q.length : Int) := by omega
    clear hp hq h1 htl
    generalize decide (p <+: q) = b at *
    go_enter Tryd.func26, Tryd.ntmps26
    go_wp2_with fail
    refine HPA.out.mono ?_
    rintro e w1 ⟨rfl, hb⟩
    go_wp2_with fail
    go_ret
    exact ⟨rfl, hb⟩
  · have hd : decide (p <+: q) = false := by
      rw [decide_eq_false_iff_not]
      intro h
      exact hle h.length_le
    rw [hd]
    have g1 : ¬ (p.length : Int) ≤ (q.length : Int) := by omega
    clear hp hq hd
    go_enter Tryd.func26, Tryd.ntmps26
    go_wp2_with fail
    go_ret
    exact ⟨rfl, Below.refl _ _⟩
end
section
set_option maxHeartbeats 8000000 in
set_option maxRecDepth 100000 in
theorem lputs_calls (t f : File) (A Af Ap Ar : Option Addr) (c cf cp cr : Nat) (q : List ByteArray) (n : ByteArray) (r : List ByteArray) (w : World) (ht : FileK.C w A t.files.length t.files) (hc : t.files.length ≤ c) (hbt : t.bulk ≤ 1048576) (hf : FileK.C w Af f.files.length f.files) (hcf : f.files.length ≤ cf) (hbf : f.bulk ≤ 1048576) (hn : n.size ≤ 1048576) (hp : Kd.C Kd.string w Ap (q ++ [n]).length (q ++ [n])) (hcp : q.length + 1 ≤ cp) (hpl : q.length ≤ 1048576) (hr : Kd.C Kd.string w Ar r.length r) (hcr : r.length ≤ cr) (hrl : r.length ≤ 1048576) (hG : Tab w) (hM : Maxed w) :
    Calls Tryd.prog 6 #[fileV t A c, .slice Ap (q.length + 1) cp, fileV f Af cf, .slice Ar r.length cr] w fun e w' => e = .returned (.bool true) ∧ Below w.heap.size w w' := by
  have HG := Lib.hid hG
  have HM := Lib.hid hM
  have HP := Lib.hid hp
  have HRP := Lib.hid hr
  have h2 := two_boxes w #[.string t.name, .int .u8 t.kind, .string t.data, .slice A t.files.length c] #[.string f.name, .int .u8 f.kind, .string f.data, .slice Af f.files.length cf] 25 25
  have hb0 := ((Below.refl w.heap.size w).alloc (Nat.le_refl _) (.cells #[.string t.name, .int .u8 t.kind, .string t.data, .slice A t.files.length c] 25)).alloc (by simp) (.cells #[.string f.name, .int .u8 f.kind, .string f.data, .slice Af f.files.length cf] 25)
  have hqn : (q ++ [n]).length = q.length + 1 := by simp
  have HLV : Hid (∀ W, Below w.heap.size w W → Calls Tryd.prog 7 #[] W fun e w' => e = .returned (.bool true) ∧ Below W.heap.size W w') := Lib.hid fun W h => lives_calls W (Tab_b HG.out h) (Maxed_below HM.out h)
  have HGETP : Hid (∀ (x : File) A c W, x.bulk ≤ 10000000 → FileK.C W A x.files.length x.files → x.files.length ≤ c → Below w.heap.size w W → Calls Tryd.prog 20 #[.agg #[.string x.name, .int .u8 x.kind, .string x.data, .slice A x.files.length c], .slice Ap (q.length + 1) cp] W fun e w' => ∃ A' c', e = .returned (.tuple #[.agg #[.string (getR x (q ++ [n])).1.name, .int .u8 (getR x (q ++ [n])).1.kind, .string (getR x (q ++ [n])).1.data, .slice A' (getR x (q ++ [n])).1.files.length c'], .int .i64 (getR x (q ++ [n])).2]) ∧ (getR x (q ++ [n])).1.files.length ≤ c' ∧ FileK.C w' A' (getR x (q ++ [n])).1.files.length (getR x (q ++ [n])).1.files ∧ Below W.heap.size W w') := Lib.hid fun x A c W hx hr hc h => by
    rw [← hqn]
    refine (show Calls Tryd.prog 20 #[fileV x A c, .slice Ap (q ++ [n]).length cp] W _ from Get_calls x A c Ap cp (q ++ [n]) W hr hc (by omega) (Kd.C_below HP.out h) (by omega) (by omega)).mono ?_
    rintro e w' ⟨v, rfl, hR, hb⟩
    obtain ⟨A', c', rfl, hc', hC'⟩ := Kd.R_reads hR
    exact ⟨A', c', rfl, hc', hC', hb⟩
  have HGETR : Hid (∀ (x : File) A c W, x.bulk ≤ 10000000 → FileK.C W A x.files.length x.files → x.files.length ≤ c → Below w.heap.size w W → Calls Tryd.prog 20 #[.agg #[.string x.name, .int .u8 x.kind, .string x.data, .slice A x.files.length c], .slice Ar r.length cr] W fun e w' => ∃ A' c', e = .returned (.tuple #[.agg #[.string (getR x r).1.name, .int .u8 (getR x r).1.kind, .string (getR x r).1.data, .slice A' (getR x r).1.files.length c'], .int .i64 (getR x r).2]) ∧ (getR x r).1.files.length ≤ c' ∧ FileK.C w' A' (getR x r).1.files.length (getR x r).1.files ∧ Below W.heap.size W w') := Lib.hid fun x A c W hx hr hc h => by
    refine (show Calls Tryd.prog 20 #[fileV x A c, .slice Ar r.length cr] W _ from Get_calls x A c Ar cr r W hr hc (by omega) (Kd.C_below HRP.out h) hcr (by omega)).mono ?_
    rintro e w' ⟨v, rfl, hR, hb⟩
    obtain ⟨A', c', rfl, hc', hC'⟩ := Kd.R_reads hR
    exact ⟨A', c', rfl, hc', hC', hb⟩
  have HSM : Hid (∀ (x : File) A c B d W, x.bulk ≤ 10000000 → FileK.C W A x.files.length x.files → x.files.length ≤ c → FileK.C W B x.files.length x.files → x.files.length ≤ d → Calls Tryd.prog 11 #[.agg #[.string x.name, .int .u8 x.kind, .string x.data, .slice A x.files.length c], .agg #[.string x.name, .int .u8 x.kind, .string x.data, .slice B x.files.length d]] W fun e w' => e = .returned (.bool true) ∧ Below W.heap.size W w') := Lib.hid fun x A c B d W hx hA hc hB hd =>
    (show Calls Tryd.prog 11 #[fileV x A c, fileV x B d] W _ from rsame_file _ x x A c B d W (Nat.le_refl _) (by omega) hA hc hB hd).mono (by
      rintro e w' ⟨rfl, hb⟩
      exact ⟨by rw [sameT_self], hb⟩)
  have HCP : Hid (∀ W, FileK.C W Af f.files.length f.files → Calls Tryd.prog 12 #[.agg #[.string f.name, .int .u8 f.kind, .string f.data, .slice Af f.files.length cf]] W fun e w' => ∃ A' c', e = .returned (.agg #[.string f.name, .int .u8 f.kind, .string f.data, .slice A' f.files.length c']) ∧ f.files.length ≤ c' ∧ FileK.C w' A' f.files.length f.files ∧ Below W.heap.size W w') := Lib.hid fun W hC => by
    refine (show Calls Tryd.prog 12 #[fileV f Af cf] W _ from rcopy_file f.bulk f Af cf W (Nat.le_refl _) (by omega) hC hcf).mono ?_
    rintro e w' ⟨v, rfl, hR, hb⟩
    obtain ⟨A', c', rfl, hc', hC'⟩ := Kd.R_reads hR
    exact ⟨A', c', rfl, hc', hC', hb⟩
  have HPU : Hid (∀ W, FileK.C W A t.files.length t.files → FileK.C W Af f.files.length f.files → Below w.heap.size w W → Calls Tryd.prog 22 #[.agg #[.string t.name, .int .u8 t.kind, .string t.data, .slice A t.files.length c], .slice Ap (q.length + 1) cp, .agg #[.string f.name, .int .u8 f.kind, .string f.data, .slice Af f.files.length cf]] W _) := Lib.hid fun W hC hD h => put_calls t f A Af c cf Ap cp q n W hC hc (by omega) hD hcf (by omega) (by omega) (Kd.C_below HP.out h) hcp (by omega)
  have HDR : Hid (∀ (x : File) A c W, x.bulk ≤ 10000000 → FileK.C W A x.files.length x.files → x.files.length ≤ c → Below w.heap.size w W → Calls Tryd.prog 24 #[.agg #[.string x.name, .int .u8 x.kind, .string x.data, .slice A x.files.length c], .slice Ap (q.length + 1) cp] W _) := Lib.hid fun x A c W hx hC hcx h => drop_calls x A c Ap cp q n W hC hcx (by omega) (Kd.C_below HP.out h) hcp (by omega)
  have HBE1 : Hid (∀ W, Below w.heap.size w W → Calls Tryd.prog 26 #[.slice Ap (q.length + 1) cp, .slice Ar r.length cr] W fun e w' => e = .returned (.bool (decide ((q ++ [n]) <+: r))) ∧ Below W.heap.size W w') := Lib.hid fun W h => by
    rw [← hqn]
    exact lbelow_calls Ap cp (q ++ [n]) Ar cr r W (Kd.C_below HP.out h) (by omega) (Kd.C_below HRP.out h) hcr (by omega) (by omega)
  have HBE2 : Hid (∀ W, Below w.heap.size w W → Calls Tryd.prog 26 #[.slice Ar r.length cr, .slice Ap (q.length + 1) cp] W fun e w' => e = .returned (.bool (decide (r <+: (q ++ [n])))) ∧ Below W.heap.size W w') := Lib.hid fun W h => by
    rw [← hqn]
    exact lbelow_calls Ar cr r Ap cp (q ++ [n]) W (Kd.C_below HRP.out h) hcr (Kd.C_below HP.out h) (by omega) (by omega) (by omega)
  have Xt0 := Lib.hid h2.1
  have Xf0 := Lib.hid h2.2
  have Kt0 := Lib.hid (Kd.C_below ht hb0)
  have Kf0 := Lib.hid (Kd.C_below hf hb0)
  have hk1 : ((q.length : Int) + 1 - 1) = (q.length : Int) := by omega
  have wq : IntKind.i64.wrap (q.length : Int) = (q.length : Int) := by rw [IntKind.wrap_i64]; omega
  have gq : (q.length : Int) < (q.length : Int) + 1 := by omega
  have gq0 : (0 : Int) ≤ (q.length : Int) := by omega
  obtain ⟨pad, rfl, hx⟩ := Kd.at_string HP.out (q.length : Int) (by omega) (by simp; omega)
  rw [Int.toNat_natCast] at hx
  have he : rdOf ByteArray.empty (q ++ [n]) (q.length : Int) = n := by simp [rdOf]
  rw [he] at hx
  have HX := Lib.hid (fun W (h : Below w.heap.size w W) => (h.cell (World.block_lt_of_cell? w _ hx)).trans hx)
  have HGB := Lib.hid (get_bulk t (q ++ [n]))
  have HGB2 := Lib.hid (get_bulk t r)
  have HPZ := Lib.hid (fun h => putR_zero (t := t) (f := f) (q := q) (n := n) h)
  have HPL := Lib.hid (fun h => puts_law (t := t) (f := f) (q := q) (n := n) h)
  clear he hx hG hM hp hr ht hf h2 hqn
  go_enter Tryd.func6, Tryd.ntmps6
  unfold fileV
  go_wp2_with fail
  generalize (w.alloc (.cells #[.string t.name, .int .u8 t.kind, .string t.data, .slice A t.files.length c] 25)).alloc (.cells #[.string f.name, .int .u8 f.kind, .string f.data, .slice Af f.files.length cf] 25) = W0 at *
  have hz0 := blk_lt Xf0.out
  refine (HLV.out _ hb0).mono ?_
  rintro e w1 ⟨rfl, hq1⟩
  have Xt1 := Lib.hid ((hq1.block _ (blk_lt Xt0.out)).trans Xt0.out)
  have Xf1 := Lib.hid ((hq1.block _ (blk_lt Xf0.out)).trans Xf0.out)
  have Kt1 := Lib.hid (Kd.C_below Kt0.out hq1)
  have Kf1 := Lib.hid (Kd.C_below Kf0.out hq1)
  have hs1 := hq1.size
  have hb1 := bstep hb0 hb0.size hq1
  have lt0 := cell_of (j := 0) Xt1.out rfl
  have lt1 := cell_of (j := 1) Xt1.out rfl
  have lt2 := cell_of (j := 2) Xt1.out rfl
  have lt3 := cell_of (j := 3) Xt1.out rfl
  go_wp2_with fail
  clear lt0 lt1 lt2 lt3
  refine (HGETP.out t A c _ (by omega) Kt1.out hc hb1).mono ?_
  rintro e w2 ⟨A1, c1, rfl, hc1, hC1, hq2⟩
  have Xt2 := Lib.hid ((hq2.block _ (blk_lt Xt1.out)).trans Xt1.out)
  have Xf2 := Lib.hid ((hq2.block _ (blk_lt Xf1.out)).trans Xf1.out)
  have Kt2 := Lib.hid (Kd.C_below Kt1.out hq2)
  have Kf2 := Lib.hid (Kd.C_below Kf1.out hq2)
  have hs2 := hq2.size
  have hb2 := bstep hb1 hb1.size hq2
  obtain ⟨⟨old, was⟩, hold⟩ : ∃ x, getR t (q ++ [n]) = x := ⟨_, rfl⟩
  rw [hold] at HPL HGB hc1 hC1
  rw [hold]
  simp only at hc1 hC1 ⊢
  have HGB : Hid (old.bulk ≤ t.bulk + 4) := HGB
  have Ko := Lib.hid hC1
  clear hold hC1
  have ha3 := below_alloc (Below.refl w2.heap.size w2) (.cells #[.string old.name, .int .u8 old.kind, .string old.data, .slice A1 old.files.length c1] 25)
  have Xt3 := Lib.hid ((ha3.block _ (blk_lt Xt2.out)).trans Xt2.out)
  have Xf3 := Lib.hid ((ha3.block _ (blk_lt Xf2.out)).trans Xf2.out)
  have Kt3 := Lib.hid (Kd.C_below Kt2.out ha3)
  have Kf3 := Lib.hid (Kd.C_below Kf2.out ha3)
  have Ko3 := Lib.hid (Kd.C_below Ko.out ha3)
  have hs3 := ha3.size
  have hb3 := bstep hb2 hb2.size ha3
  have Xo3 := Lib.hid (blk_new w2 (.cells #[.string old.name, .int .u8 old.kind, .string old.data, .slice A1 old.files.length c1] 25))
  have hz3 : (w2.alloc (.cells #[.string old.name, .int .u8 old.kind, .string old.data, .slice A1 old.files.length c1] 25)).heap.size = w2.heap.size + 1 := by simp
  have lt0 := cell_of (j := 0) Xt3.out rfl
  have lt1 := cell_of (j := 1) Xt3.out rfl
  have lt2 := cell_of (j := 2) Xt3.out rfl
  have lt3 := cell_of (j := 3) Xt3.out rfl
  have lf0 := cell_of (j := 0) Xf3.out rfl
  have lf1 := cell_of (j := 1) Xf3.out rfl
  have lf2 := cell_of (j := 2) Xf3.out rfl
  have lf3 := cell_of (j := 3) Xf3.out rfl
  go_wp2_with fail
  clear lt0 lt1 lt2 lt3 lf0 lf1 lf2 lf3
  generalize (w2.alloc (.cells #[.string old.name, .int .u8 old.kind, .string old.data, .slice A1 old.files.length c1] 25)) = W3 at *
  refine (HPU.out _ Kt3.out Kf3.out hb3).mono ?_
  rintro e w4 ⟨A2, c2, rfl, hc2, hC2, hq4⟩
  have Xt4 := Lib.hid ((hq4.block _ (blk_lt Xt3.out)).trans Xt3.out)
  have Xf4 := Lib.hid ((hq4.block _ (blk_lt Xf3.out)).trans Xf3.out)
  have Xo4 := Lib.hid ((hq4.block _ (blk_lt Xo3.out)).trans Xo3.out)
  have Kt4 := Lib.hid (Kd.C_below Kt3.out hq4)
  have Kf4 := Lib.hid (Kd.C_below Kf3.out hq4)
  have Ko4 := Lib.hid (Kd.C_below Ko3.out hq4)
  have hs4 := hq4.size
  have hb4 := bstep hb3 hb3.size hq4
  obtain ⟨⟨u, why⟩, hput⟩ : ∃ x, putR t q n f = x := ⟨_, rfl⟩
  rw [hput] at HPL HPZ hc2 hC2
  rw [hput]
  simp only at hc2 hC2 ⊢
  have Ku := Lib.hid hC2
  clear hput hC2
  have ha5 := below_alloc (Below.refl w4.heap.size w4) (.cells #[.string u.name, .int .u8 u.kind, .string u.data, .slice A2 u.files.length c2] 25)
  have Xt5 := Lib.hid ((ha5.block _ (blk_lt Xt4.out)).trans Xt4.out)
  have Xf5 := Lib.hid ((ha5.block _ (blk_lt Xf4.out)).trans Xf4.out)
  have Xo5 := Lib.hid ((ha5.block _ (blk_lt Xo4.out)).trans Xo4.out)
  have Kt5 := Lib.hid (Kd.C_below Kt4.out ha5)
  have Kf5 := Lib.hid (Kd.C_below Kf4.out ha5)
  have Ko5 := Lib.hid (Kd.C_below Ko4.out ha5)
  have Ku5 := Lib.hid (Kd.C_below Ku.out ha5)
  have hs5 := ha5.size
  have hb5 := bstep hb4 hb4.size ha5
  have Xu5 := Lib.hid (blk_new w4 (.cells #[.string u.name, .int .u8 u.kind, .string u.data, .slice A2 u.files.length c2] 25))
  have hz5 : (w4.alloc (.cells #[.string u.name, .int .u8 u.kind, .string u.data, .slice A2 u.files.length c2] 25)).heap.size = w4.heap.size + 1 := by simp
  by_cases hwhy : why = 0
  rotate_left
  · skip
    have k1 : (why != 0) = true := by rw [bne_iff_ne]; exact hwhy
    have lu0 := cell_of (j := 0) Xu5.out rfl
    have lu1 := cell_of (j := 1) Xu5.out rfl
    have lu2 := cell_of (j := 2) Xu5.out rfl
    have lu3 := cell_of (j := 3) Xu5.out rfl
    go_wp2_with fail
    clear lu0 lu1 lu2 lu3
    generalize (w4.alloc (.cells #[.string u.name, .int .u8 u.kind, .string u.data, .slice A2 u.files.length c2] 25)) = W5 at *
    obtain rfl : u = zeroF := HPZ.out hwhy
    refine (HSM.out zeroF A2 c2 none 0 _ (by rw [zero_bulk]; omega) Ku5.out hc2 (Kd.C_nil FileK _) (Nat.le_refl _)).mono ?_
    rintro e w6 ⟨rfl, hq6⟩
    have Xt6 := Lib.hid ((hq6.block _ (blk_lt Xt5.out)).trans Xt5.out)
    have Xf6 := Lib.hid ((hq6.block _ (blk_lt Xf5.out)).trans Xf5.out)
    have Xo6 := Lib.hid ((hq6.block _ (blk_lt Xo5.out)).trans Xo5.out)
    have Xu6 := Lib.hid ((hq6.block _ (blk_lt Xu5.out)).trans Xu5.out)
    have Kt6 := Lib.hid (Kd.C_below Kt5.out hq6)
    have Kf6 := Lib.hid (Kd.C_below Kf5.out hq6)
    have Ko6 := Lib.hid (Kd.C_below Ko5.out hq6)
    have Ku6 := Lib.hid (Kd.C_below Ku5.out hq6)
    have hs6 := hq6.size
    have hb6 := bstep hb5 hb5.size hq6
    go_wp2_with fail
    go_ret
    exact ⟨rfl, hb6⟩
  · skip
    subst hwhy
    obtain ⟨u', e, hu1, hub, heb, hgu, hdu, hfnd, hnot, hap⟩ := HPL.out rfl
    injection hu1 with hu1 _
    subst hu1
    try simp only at hfnd hnot
    have HGU := Lib.hid hgu
    have HDU := Lib.hid hdu
    have HFND := Lib.hid hfnd
    have HNOT := Lib.hid hnot
    have HAP := Lib.hid hap
    have hub2 : u.bulk ≤ 10000000 := by omega
    have heb2 : e.bulk ≤ 10000000 := by omega
    clear hgu hdu hfnd hnot hap
    have lu0 := cell_of (j := 0) Xu5.out rfl
    have lu1 := cell_of (j := 1) Xu5.out rfl
    have lu2 := cell_of (j := 2) Xu5.out rfl
    have lu3 := cell_of (j := 3) Xu5.out rfl
    go_wp2_with fail
    clear lu0 lu1 lu2 lu3
    generalize (w4.alloc (.cells #[.string u.name, .int .u8 u.kind, .string u.data, .slice A2 u.files.length c2] 25)) = W5 at *
    refine (HGETP.out u A2 c2 _ hub2 Ku5.out hc2 hb5).mono ?_
    rintro e w6 ⟨A3, c3, rfl, hc3, hC3, hq6⟩
    have Xt6 := Lib.hid ((hq6.block _ (blk_lt Xt5.out)).trans Xt5.out)
    have Xf6 := Lib.hid ((hq6.block _ (blk_lt Xf5.out)).trans Xf5.out)
    have Xo6 := Lib.hid ((hq6.block _ (blk_lt Xo5.out)).trans Xo5.out)
    have Xu6 := Lib.hid ((hq6.block _ (blk_lt Xu5.out)).trans Xu5.out)
    have Kt6 := Lib.hid (Kd.C_below Kt5.out hq6)
    have Kf6 := Lib.hid (Kd.C_below Kf5.out hq6)
    have Ko6 := Lib.hid (Kd.C_below Ko5.out hq6)
    have Ku6 := Lib.hid (Kd.C_below Ku5.out hq6)
    have hs6 := hq6.size
    have hb6 := bstep hb5 hb5.size hq6
    rw [HGU.out] at hc3 hC3
    rw [HGU.out]
    simp only at hc3 hC3 ⊢
    change f.files.length ≤ c3 at hc3
    have Kg : Hid (FileK.C w6 A3 f.files.length f.files) := Lib.hid hC3
    clear hC3
    have ha7 := below_alloc (Below.refl w6.heap.size w6) (.cells #[.string n, .int .u8 f.kind, .string f.data, .slice A3 f.files.length c3] 25)
    have Xt7 := Lib.hid ((ha7.block _ (blk_lt Xt6.out)).trans Xt6.out)
    have Xf7 := Lib.hid ((ha7.block _ (blk_lt Xf6.out)).trans Xf6.out)
    have Xo7 := Lib.hid ((ha7.block _ (blk_lt Xo6.out)).trans Xo6.out)
    have Xu7 := Lib.hid ((ha7.block _ (blk_lt Xu6.out)).trans Xu6.out)
    have Kt7 := Lib.hid (Kd.C_below Kt6.out ha7)
    have Kf7 := Lib.hid (Kd.C_below Kf6.out ha7)
    have Ko7 := Lib.hid (Kd.C_below Ko6.out ha7)
    have Ku7 := Lib.hid (Kd.C_below Ku6.out ha7)
    have Kg7 := Lib.hid (Kd.C_below Kg.out ha7)
    have hs7 := ha7.size
    have hb7 := bstep hb6 hb6.size ha7
    have Xg7 := Lib.hid (blk_new w6 (.cells #[.string n, .int .u8 f.kind, .string f.data, .slice A3 f.files.length c3] 25))
    have hz7 : (w6.alloc (.cells #[.string n, .int .u8 f.kind, .string f.data, .slice A3 f.files.length c3] 25)).heap.size = w6.heap.size + 1 := by simp
    skip
    have lf0 := cell_of (j := 0) Xf7.out rfl
    have lf1 := cell_of (j := 1) Xf7.out rfl
    have lf2 := cell_of (j := 2) Xf7.out rfl
    have lf3 := cell_of (j := 3) Xf7.out rfl
    dsimp only [nameF]
    go_wp2_with fail
    clear lf0 lf1 lf2 lf3
    generalize (w6.alloc (.cells #[.string n, .int .u8 f.kind, .string f.data, .slice A3 f.files.length c3] 25)) = W7 at *
    refine (HCP.out _ Kf7.out).mono ?_
    rintro e w8 ⟨A4, c4, rfl, hc4, hC4, hq8⟩
    have Xt8 := Lib.hid ((hq8.block _ (blk_lt Xt7.out)).trans Xt7.out)
    have Xf8 := Lib.hid ((hq8.block _ (blk_lt Xf7.out)).trans Xf7.out)
    have Xo8 := Lib.hid ((hq8.block _ (blk_lt Xo7.out)).trans Xo7.out)
    have Xu8 := Lib.hid ((hq8.block _ (blk_lt Xu7.out)).trans Xu7.out)
    have Xg8 := Lib.hid ((hq8.block _ (blk_lt Xg7.out)).trans Xg7.out)
    have Kt8 := Lib.hid (Kd.C_below Kt7.out hq8)
    have Kf8 := Lib.hid (Kd.C_below Kf7.out hq8)
    have Ko8 := Lib.hid (Kd.C_below Ko7.out hq8)
    have Ku8 := Lib.hid (Kd.C_below Ku7.out hq8)
    have Kg8 := Lib.hid (Kd.C_below Kg7.out hq8)
    have hs8 := hq8.size
    have hb8 := bstep hb7 hb7.size hq8
    have Kw := Lib.hid hC4
    clear hC4
    have hxp := HX.out _ (bstep hb8 hb8.size (below_alloc (Below.refl w8.heap.size w8) (.cells #[.string f.name, .int .u8 f.kind, .string f.data, .slice A4 f.files.length c4] 25)))
    have wf0 := unfr (blk_new w8 (.cells #[.string f.name, .int .u8 f.kind, .string f.data, .slice A4 f.files.length c4] 25)) 0
    have wc0 := cell_of (j := 0) (blk_new w8 (.cells #[.string f.name, .int .u8 f.kind, .string f.data, .slice A4 f.files.length c4] 25)) rfl
    have ha10 := below_alloc (Below.refl w8.heap.size w8) (.cells #[.string n, .int .u8 f.kind, .string f.data, .slice A4 f.files.length c4] 25)
    have Xt10 := Lib.hid ((ha10.block _ (blk_lt Xt8.out)).trans Xt8.out)
    have Xf10 := Lib.hid ((ha10.block _ (blk_lt Xf8.out)).trans Xf8.out)
    have Xo10 := Lib.hid ((ha10.block _ (blk_lt Xo8.out)).trans Xo8.out)
    have Xu10 := Lib.hid ((ha10.block _ (blk_lt Xu8.out)).trans Xu8.out)
    have Xg10 := Lib.hid ((ha10.block _ (blk_lt Xg8.out)).trans Xg8.out)
    have Kt10 := Lib.hid (Kd.C_below Kt8.out ha10)
    have Kf10 := Lib.hid (Kd.C_below Kf8.out ha10)
    have Ko10 := Lib.hid (Kd.C_below Ko8.out ha10)
    have Ku10 := Lib.hid (Kd.C_below Ku8.out ha10)
    have Kg10 := Lib.hid (Kd.C_below Kg8.out ha10)
    have Kw10 := Lib.hid (Kd.C_below Kw.out ha10)
    have hs10 := ha10.size
    have hb10 := bstep hb8 hb8.size ha10
    have Xw10 := Lib.hid (blk_new w8 (.cells #[.string n, .int .u8 f.kind, .string f.data, .slice A4 f.files.length c4] 25))
    have hz10 : (w8.alloc (.cells #[.string n, .int .u8 f.kind, .string f.data, .slice A4 f.files.length c4] 25)).heap.size = w8.heap.size + 1 := by simp
    have lg0 := cell_of (j := 0) Xg10.out rfl
    have lg1 := cell_of (j := 1) Xg10.out rfl
    have lg2 := cell_of (j := 2) Xg10.out rfl
    have lg3 := cell_of (j := 3) Xg10.out rfl
    have lw0 := cell_of (j := 0) Xw10.out rfl
    have lw1 := cell_of (j := 1) Xw10.out rfl
    have lw2 := cell_of (j := 2) Xw10.out rfl
    have lw3 := cell_of (j := 3) Xw10.out rfl
    go_wp2_with fail
    clear hxp wf0 wc0
    clear lg0 lg1 lg2 lg3 lw0 lw1 lw2 lw3
    generalize (w8.alloc (.cells #[.string n, .int .u8 f.kind, .string f.data, .slice A4 f.files.length c4] 25)) = W10 at *
    refine (HSM.out (nameF f n) A3 c3 A4 c4 _ (by have := bulk_name f n; omega) Kg10.out hc3 Kw10.out hc4).mono ?_
    rintro e w11 ⟨rfl, hq11⟩
    have Xt11 := Lib.hid ((hq11.block _ (blk_lt Xt10.out)).trans Xt10.out)
    have Xf11 := Lib.hid ((hq11.block _ (blk_lt Xf10.out)).trans Xf10.out)
    have Xo11 := Lib.hid ((hq11.block _ (blk_lt Xo10.out)).trans Xo10.out)
    have Xu11 := Lib.hid ((hq11.block _ (blk_lt Xu10.out)).trans Xu10.out)
    have Xg11 := Lib.hid ((hq11.block _ (blk_lt Xg10.out)).trans Xg10.out)
    have Xw11 := Lib.hid ((hq11.block _ (blk_lt Xw10.out)).trans Xw10.out)
    have Kt11 := Lib.hid (Kd.C_below Kt10.out hq11)
    have Kf11 := Lib.hid (Kd.C_below Kf10.out hq11)
    have Ko11 := Lib.hid (Kd.C_below Ko10.out hq11)
    have Ku11 := Lib.hid (Kd.C_below Ku10.out hq11)
    have Kg11 := Lib.hid (Kd.C_below Kg10.out hq11)
    have Kw11 := Lib.hid (Kd.C_below Kw10.out hq11)
    have hs11 := hq11.size
    have hb11 := bstep hb10 hb10.size hq11
    have lu0 := cell_of (j := 0) Xu11.out rfl
    have lu1 := cell_of (j := 1) Xu11.out rfl
    have lu2 := cell_of (j := 2) Xu11.out rfl
    have lu3 := cell_of (j := 3) Xu11.out rfl
    go_wp2_with fail
    clear lu0 lu1 lu2 lu3
    refine (HDR.out u A2 c2 _ hub2 Ku11.out hc2 hb11).mono ?_
    rintro e w12 ⟨A5, c5, rfl, hc5, hC5, hq12⟩
    have Xt12 := Lib.hid ((hq12.block _ (blk_lt Xt11.out)).trans Xt11.out)
    have Xf12 := Lib.hid ((hq12.block _ (blk_lt Xf11.out)).trans Xf11.out)
    have Xo12 := Lib.hid ((hq12.block _ (blk_lt Xo11.out)).trans Xo11.out)
    have Xu12 := Lib.hid ((hq12.block _ (blk_lt Xu11.out)).trans Xu11.out)
    have Xg12 := Lib.hid ((hq12.block _ (blk_lt Xg11.out)).trans Xg11.out)
    have Xw12 := Lib.hid ((hq12.block _ (blk_lt Xw11.out)).trans Xw11.out)
    have Kt12 := Lib.hid (Kd.C_below Kt11.out hq12)
    have Kf12 := Lib.hid (Kd.C_below Kf11.out hq12)
    have Ko12 := Lib.hid (Kd.C_below Ko11.out hq12)
    have Ku12 := Lib.hid (Kd.C_below Ku11.out hq12)
    have Kg12 := Lib.hid (Kd.C_below Kg11.out hq12)
    have Kw12 := Lib.hid (Kd.C_below Kw11.out hq12)
    have hs12 := hq12.size
    have hb12 := bstep hb11 hb11.size hq12
    rw [HDU.out] at hc5 hC5
    rw [HDU.out]
    simp only at hc5 hC5 ⊢
    have Kd5 := Lib.hid (hC5 _ fun _ _ _ => rfl)
    clear hC5
    have ha13 := below_alloc (Below.refl w12.heap.size w12) (.cells #[.string e.name, .int .u8 e.kind, .string e.data, .slice A5 e.files.length c5] 25)
    have Xt13 := Lib.hid ((ha13.block _ (blk_lt Xt12.out)).trans Xt12.out)
    have Xf13 := Lib.hid ((ha13.block _ (blk_lt Xf12.out)).trans Xf12.out)
    have Xo13 := Lib.hid ((ha13.block _ (blk_lt Xo12.out)).trans Xo12.out)
    have Xu13 := Lib.hid ((ha13.block _ (blk_lt Xu12.out)).trans Xu12.out)
    have Xg13 := Lib.hid ((ha13.block _ (blk_lt Xg12.out)).trans Xg12.out)
    have Xw13 := Lib.hid ((ha13.block _ (blk_lt Xw12.out)).trans Xw12.out)
    have Kt13 := Lib.hid (Kd.C_below Kt12.out ha13)
    have Kf13 := Lib.hid (Kd.C_below Kf12.out ha13)
    have Ko13 := Lib.hid (Kd.C_below Ko12.out ha13)
    have Ku13 := Lib.hid (Kd.C_below Ku12.out ha13)
    have Kg13 := Lib.hid (Kd.C_below Kg12.out ha13)
    have Kw13 := Lib.hid (Kd.C_below Kw12.out ha13)
    have Kd13 := Lib.hid (Kd.C_below Kd5.out ha13)
    have hs13 := ha13.size
    have hb13 := bstep hb12 hb12.size ha13
    have Xd13 := Lib.hid (blk_new w12 (.cells #[.string e.name, .int .u8 e.kind, .string e.data, .slice A5 e.files.length c5] 25))
    have hz13 : (w12.alloc (.cells #[.string e.name, .int .u8 e.kind, .string e.data, .slice A5 e.files.length c5] 25)).heap.size = w12.heap.size + 1 := by simp
    have lt0 := cell_of (j := 0) Xt13.out rfl
    have lt1 := cell_of (j := 1) Xt13.out rfl
    have lt2 := cell_of (j := 2) Xt13.out rfl
    have lt3 := cell_of (j := 3) Xt13.out rfl
    have m0 := lt0
    have m1 := lt1
    have m2 := lt2
    have m3 := lt3
    have ha14 := below_alloc (Below.refl (w12.alloc (.cells #[.string e.name, .int .u8 e.kind, .string e.data, .slice A5 e.files.length c5] 25)).heap.size (w12.alloc (.cells #[.string e.name, .int .u8 e.kind, .string e.data, .slice A5 e.files.length c5] 25))) (.cells #[.string t.name, .int .u8 t.kind, .string t.data, .slice A t.files.length c] 25)
    have Xt14 := Lib.hid ((ha14.block _ (blk_lt Xt13.out)).trans Xt13.out)
    have Xf14 := Lib.hid ((ha14.block _ (blk_lt Xf13.out)).trans Xf13.out)
    have Xo14 := Lib.hid ((ha14.block _ (blk_lt Xo13.out)).trans Xo13.out)
    have Xu14 := Lib.hid ((ha14.block _ (blk_lt Xu13.out)).trans Xu13.out)
    have Xg14 := Lib.hid ((ha14.block _ (blk_lt Xg13.out)).trans Xg13.out)
    have Xw14 := Lib.hid ((ha14.block _ (blk_lt Xw13.out)).trans Xw13.out)
    have Xd14 := Lib.hid ((ha14.block _ (blk_lt Xd13.out)).trans Xd13.out)
    have Kt14 := Lib.hid (Kd.C_below Kt13.out ha14)
    have Kf14 := Lib.hid (Kd.C_below Kf13.out ha14)
    have Ko14 := Lib.hid (Kd.C_below Ko13.out ha14)
    have Ku14 := Lib.hid (Kd.C_below Ku13.out ha14)
    have Kg14 := Lib.hid (Kd.C_below Kg13.out ha14)
    have Kw14 := Lib.hid (Kd.C_below Kw13.out ha14)
    have Kd14 := Lib.hid (Kd.C_below Kd13.out ha14)
    have hs14 := ha14.size
    have hb14 := bstep hb13 hb13.size ha14
    have Xe14 := Lib.hid (blk_new (w12.alloc (.cells #[.string e.name, .int .u8 e.kind, .string e.data, .slice A5 e.files.length c5] 25)) (.cells #[.string t.name, .int .u8 t.kind, .string t.data, .slice A t.files.length c] 25))
    have hz14 : ((w12.alloc (.cells #[.string e.name, .int .u8 e.kind, .string e.data, .slice A5 e.files.length c5] 25)).alloc (.cells #[.string t.name, .int .u8 t.kind, .string t.data, .slice A t.files.length c] 25)).heap.size = (w12.alloc (.cells #[.string e.name, .int .u8 e.kind, .string e.data, .slice A5 e.files.length c5] 25)).heap.size + 1 := by simp
    rw [hz13] at Xe14
    clear lt0 lt1 lt2 lt3
    by_cases hw : was = 0
    rotate_left
    · obtain rfl : e = t := HNOT.out hw
      have k2 : (was == 0) = false := by simpa using hw
      have ld0 := cell_of (j := 0) Xd14.out rfl
      have ld1 := cell_of (j := 1) Xd14.out rfl
      have ld2 := cell_of (j := 2) Xd14.out rfl
      have ld3 := cell_of (j := 3) Xd14.out rfl
      have le0 := cell_of (j := 0) Xe14.out rfl
      have le1 := cell_of (j := 1) Xe14.out rfl
      have le2 := cell_of (j := 2) Xe14.out rfl
      have le3 := cell_of (j := 3) Xe14.out rfl
      go_wp2_with fail
      clear m0 m1 m2 m3
      clear ld0 ld1 ld2 ld3 le0 le1 le2 le3
      generalize ((w12.alloc (.cells #[.string e.name, .int .u8 e.kind, .string e.data, .slice A5 e.files.length c5] 25)).alloc (.cells #[.string e.name, .int .u8 e.kind, .string e.data, .slice A e.files.length c] 25)) = W14 at *
      refine (HSM.out e A5 c5 A c _ (by omega) Kd14.out hc5 Kt14.out hc).mono ?_
      rintro e w15 ⟨rfl, hq15⟩
      have Xt15 := Lib.hid ((hq15.block _ (blk_lt Xt14.out)).trans Xt14.out)
      have Xf15 := Lib.hid ((hq15.block _ (blk_lt Xf14.out)).trans Xf14.out)
      have Xo15 := Lib.hid ((hq15.block _ (blk_lt Xo14.out)).trans Xo14.out)
      have Xu15 := Lib.hid ((hq15.block _ (blk_lt Xu14.out)).trans Xu14.out)
      have Xg15 := Lib.hid ((hq15.block _ (blk_lt Xg14.out)).trans Xg14.out)
      have Xw15 := Lib.hid ((hq15.block _ (blk_lt Xw14.out)).trans Xw14.out)
      have Xd15 := Lib.hid ((hq15.block _ (blk_lt Xd14.out)).trans Xd14.out)
      have Xe15 := Lib.hid ((hq15.block _ (blk_lt Xe14.out)).trans Xe14.out)
      have Kt15 := Lib.hid (Kd.C_below Kt14.out hq15)
      have Kf15 := Lib.hid (Kd.C_below Kf14.out hq15)
      have Ko15 := Lib.hid (Kd.C_below Ko14.out hq15)
      have Ku15 := Lib.hid (Kd.C_below Ku14.out hq15)
      have Kg15 := Lib.hid (Kd.C_below Kg14.out hq15)
      have Kw15 := Lib.hid (Kd.C_below Kw14.out hq15)
      have Kd15 := Lib.hid (Kd.C_below Kd14.out hq15)
      have Kte15 := Lib.hid (Kd.C_below Kt14.out hq15)
      have hs15 := hq15.size
      have hb15 := bstep hb14 hb14.size hq15
      have he15 := bstep ha14 ha14.size hq15
      go_wp2_with fail
      refine (HBE1.out _ hb15).mono ?_
      rintro e w16 ⟨rfl, hq16⟩
      have Xt16 := Lib.hid ((hq16.block _ (blk_lt Xt15.out)).trans Xt15.out)
      have Xf16 := Lib.hid ((hq16.block _ (blk_lt Xf15.out)).trans Xf15.out)
      have Xo16 := Lib.hid ((hq16.block _ (blk_lt Xo15.out)).trans Xo15.out)
      have Xu16 := Lib.hid ((hq16.block _ (blk_lt Xu15.out)).trans Xu15.out)
      have Xg16 := Lib.hid ((hq16.block _ (blk_lt Xg15.out)).trans Xg15.out)
      have Xw16 := Lib.hid ((hq16.block _ (blk_lt Xw15.out)).trans Xw15.out)
      have Xd16 := Lib.hid ((hq16.block _ (blk_lt Xd15.out)).trans Xd15.out)
      have Xe16 := Lib.hid ((hq16.block _ (blk_lt Xe15.out)).trans Xe15.out)
      have Kt16 := Lib.hid (Kd.C_below Kt15.out hq16)
      have Kf16 := Lib.hid (Kd.C_below Kf15.out hq16)
      have Ko16 := Lib.hid (Kd.C_below Ko15.out hq16)
      have Ku16 := Lib.hid (Kd.C_below Ku15.out hq16)
      have Kg16 := Lib.hid (Kd.C_below Kg15.out hq16)
      have Kw16 := Lib.hid (Kd.C_below Kw15.out hq16)
      have Kd16 := Lib.hid (Kd.C_below Kd15.out hq16)
      have Kte16 := Lib.hid (Kd.C_below Kte15.out hq16)
      have hs16 := hq16.size
      have hb16 := bstep hb15 hb15.size hq16
      have he16 := bstep he15 he15.size hq16
      cases hb1p : decide ((q ++ [n]) <+: r)
      rotate_left
      · go_wp2_with fail
        go_ret
        exact ⟨rfl, hb16⟩
      · skip
        go_wp2_with fail
        refine (HBE2.out _ hb16).mono ?_
        rintro e w17 ⟨rfl, hq17⟩
        have Xt17 := Lib.hid ((hq17.block _ (blk_lt Xt16.out)).trans Xt16.out)
        have Xf17 := Lib.hid ((hq17.block _ (blk_lt Xf16.out)).trans Xf16.out)
        have Xo17 := Lib.hid ((hq17.block _ (blk_lt Xo16.out)).trans Xo16.out)
        have Xu17 := Lib.hid ((hq17.block _ (blk_lt Xu16.out)).trans Xu16.out)
        have Xg17 := Lib.hid ((hq17.block _ (blk_lt Xg16.out)).trans Xg16.out)
        have Xw17 := Lib.hid ((hq17.block _ (blk_lt Xw16.out)).trans Xw16.out)
        have Xd17 := Lib.hid ((hq17.block _ (blk_lt Xd16.out)).trans Xd16.out)
        have Xe17 := Lib.hid ((hq17.block _ (blk_lt Xe16.out)).trans Xe16.out)
        have Kt17 := Lib.hid (Kd.C_below Kt16.out hq17)
        have Kf17 := Lib.hid (Kd.C_below Kf16.out hq17)
        have Ko17 := Lib.hid (Kd.C_below Ko16.out hq17)
        have Ku17 := Lib.hid (Kd.C_below Ku16.out hq17)
        have Kg17 := Lib.hid (Kd.C_below Kg16.out hq17)
        have Kw17 := Lib.hid (Kd.C_below Kw16.out hq17)
        have Kd17 := Lib.hid (Kd.C_below Kd16.out hq17)
        have Kte17 := Lib.hid (Kd.C_below Kte16.out hq17)
        have hs17 := hq17.size
        have hb17 := bstep hb16 hb16.size hq17
        have he17 := bstep he16 he16.size hq17
        cases hb2p : decide (r <+: (q ++ [n]))
        rotate_left
        · go_wp2_with fail
          go_ret
          exact ⟨rfl, hb17⟩
        · skip
          have hapr := HAP.out r (of_decide_eq_false hb1p) (of_decide_eq_false hb2p)
          have lt0 := cell_of (j := 0) Xt17.out rfl
          have lt1 := cell_of (j := 1) Xt17.out rfl
          have lt2 := cell_of (j := 2) Xt17.out rfl
          have lt3 := cell_of (j := 3) Xt17.out rfl
          go_wp2_with fail
          clear lt0 lt1 lt2 lt3
          refine (HGETR.out e A c _ (by omega) Kt17.out hc hb17).mono ?_
          rintro e w18 ⟨A8, c8, rfl, hc8, hC8, hq18⟩
          have Xt18 := Lib.hid ((hq18.block _ (blk_lt Xt17.out)).trans Xt17.out)
          have Xf18 := Lib.hid ((hq18.block _ (blk_lt Xf17.out)).trans Xf17.out)
          have Xo18 := Lib.hid ((hq18.block _ (blk_lt Xo17.out)).trans Xo17.out)
          have Xu18 := Lib.hid ((hq18.block _ (blk_lt Xu17.out)).trans Xu17.out)
          have Xg18 := Lib.hid ((hq18.block _ (blk_lt Xg17.out)).trans Xg17.out)
          have Xw18 := Lib.hid ((hq18.block _ (blk_lt Xw17.out)).trans Xw17.out)
          have Xd18 := Lib.hid ((hq18.block _ (blk_lt Xd17.out)).trans Xd17.out)
          have Xe18 := Lib.hid ((hq18.block _ (blk_lt Xe17.out)).trans Xe17.out)
          have Kt18 := Lib.hid (Kd.C_below Kt17.out hq18)
          have Kf18 := Lib.hid (Kd.C_below Kf17.out hq18)
          have Ko18 := Lib.hid (Kd.C_below Ko17.out hq18)
          have Ku18 := Lib.hid (Kd.C_below Ku17.out hq18)
          have Kg18 := Lib.hid (Kd.C_below Kg17.out hq18)
          have Kw18 := Lib.hid (Kd.C_below Kw17.out hq18)
          have Kd18 := Lib.hid (Kd.C_below Kd17.out hq18)
          have Kte18 := Lib.hid (Kd.C_below Kte17.out hq18)
          have hs18 := hq18.size
          have hb18 := bstep hb17 hb17.size hq18
          have he18 := bstep he17 he17.size hq18
          obtain ⟨⟨gt, kt⟩, hgt⟩ : ∃ x, getR e r = x := ⟨_, rfl⟩
          rw [hgt] at HGB2 hc8 hC8 hapr
          rw [hgt]
          simp only at hc8 hC8 ⊢
          have hgtb : gt.bulk ≤ e.bulk + 4 := HGB2.out
          have Ka := Lib.hid hC8
          clear hC8 hgt
          have ha19 := below_alloc (Below.refl w18.heap.size w18) (.cells #[.string gt.name, .int .u8 gt.kind, .string gt.data, .slice A8 gt.files.length c8] 25)
          have Xt19 := Lib.hid ((ha19.block _ (blk_lt Xt18.out)).trans Xt18.out)
          have Xf19 := Lib.hid ((ha19.block _ (blk_lt Xf18.out)).trans Xf18.out)
          have Xo19 := Lib.hid ((ha19.block _ (blk_lt Xo18.out)).trans Xo18.out)
          have Xu19 := Lib.hid ((ha19.block _ (blk_lt Xu18.out)).trans Xu18.out)
          have Xg19 := Lib.hid ((ha19.block _ (blk_lt Xg18.out)).trans Xg18.out)
          have Xw19 := Lib.hid ((ha19.block _ (blk_lt Xw18.out)).trans Xw18.out)
          have Xd19 := Lib.hid ((ha19.block _ (blk_lt Xd18.out)).trans Xd18.out)
          have Xe19 := Lib.hid ((ha19.block _ (blk_lt Xe18.out)).trans Xe18.out)
          have Kt19 := Lib.hid (Kd.C_below Kt18.out ha19)
          have Kf19 := Lib.hid (Kd.C_below Kf18.out ha19)
          have Ko19 := Lib.hid (Kd.C_below Ko18.out ha19)
          have Ku19 := Lib.hid (Kd.C_below Ku18.out ha19)
          have Kg19 := Lib.hid (Kd.C_below Kg18.out ha19)
          have Kw19 := Lib.hid (Kd.C_below Kw18.out ha19)
          have Kd19 := Lib.hid (Kd.C_below Kd18.out ha19)
          have Kte19 := Lib.hid (Kd.C_below Kte18.out ha19)
          have Ka19 := Lib.hid (Kd.C_below Ka.out ha19)
          have hs19 := ha19.size
          have hb19 := bstep hb18 hb18.size ha19
          have he19 := bstep he18 he18.size ha19
          have Xa19 := Lib.hid (blk_new w18 (.cells #[.string gt.name, .int .u8 gt.kind, .string gt.data, .slice A8 gt.files.length c8] 25))
          have hz19 : (w18.alloc (.cells #[.string gt.name, .int .u8 gt.kind, .string gt.data, .slice A8 gt.files.length c8] 25)).heap.size = w18.heap.size + 1 := by simp
          have lu0 := cell_of (j := 0) Xu19.out rfl
          have lu1 := cell_of (j := 1) Xu19.out rfl
          have lu2 := cell_of (j := 2) Xu19.out rfl
          have lu3 := cell_of (j := 3) Xu19.out rfl
          go_wp2_with fail
          clear lu0 lu1 lu2 lu3
          generalize (w18.alloc (.cells #[.string gt.name, .int .u8 gt.kind, .string gt.data, .slice A8 gt.files.length c8] 25)) = W19 at *
          refine (HGETR.out u A2 c2 _ hub2 Ku19.out hc2 hb19).mono ?_
          rintro e w20 ⟨A9, c9, rfl, hc9, hC9, hq20⟩
          have Xt20 := Lib.hid ((hq20.block _ (blk_lt Xt19.out)).trans Xt19.out)
          have Xf20 := Lib.hid ((hq20.block _ (blk_lt Xf19.out)).trans Xf19.out)
          have Xo20 := Lib.hid ((hq20.block _ (blk_lt Xo19.out)).trans Xo19.out)
          have Xu20 := Lib.hid ((hq20.block _ (blk_lt Xu19.out)).trans Xu19.out)
          have Xg20 := Lib.hid ((hq20.block _ (blk_lt Xg19.out)).trans Xg19.out)
          have Xw20 := Lib.hid ((hq20.block _ (blk_lt Xw19.out)).trans Xw19.out)
          have Xd20 := Lib.hid ((hq20.block _ (blk_lt Xd19.out)).trans Xd19.out)
          have Xe20 := Lib.hid ((hq20.block _ (blk_lt Xe19.out)).trans Xe19.out)
          have Xa20 := Lib.hid ((hq20.block _ (blk_lt Xa19.out)).trans Xa19.out)
          have Kt20 := Lib.hid (Kd.C_below Kt19.out hq20)
          have Kf20 := Lib.hid (Kd.C_below Kf19.out hq20)
          have Ko20 := Lib.hid (Kd.C_below Ko19.out hq20)
          have Ku20 := Lib.hid (Kd.C_below Ku19.out hq20)
          have Kg20 := Lib.hid (Kd.C_below Kg19.out hq20)
          have Kw20 := Lib.hid (Kd.C_below Kw19.out hq20)
          have Kd20 := Lib.hid (Kd.C_below Kd19.out hq20)
          have Kte20 := Lib.hid (Kd.C_below Kte19.out hq20)
          have Ka20 := Lib.hid (Kd.C_below Ka19.out hq20)
          have hs20 := hq20.size
          have hb20 := bstep hb19 hb19.size hq20
          have he20 := bstep he19 he19.size hq20
          rw [hapr] at hc9 hC9
          rw [hapr]
          simp only at hc9 hC9 ⊢
          have Kb := Lib.hid hC9
          clear hC9 hapr
          have ha21 := below_alloc (Below.refl w20.heap.size w20) (.cells #[.string gt.name, .int .u8 gt.kind, .string gt.data, .slice A9 gt.files.length c9] 25)
          have Xt21 := Lib.hid ((ha21.block _ (blk_lt Xt20.out)).trans Xt20.out)
          have Xf21 := Lib.hid ((ha21.block _ (blk_lt Xf20.out)).trans Xf20.out)
          have Xo21 := Lib.hid ((ha21.block _ (blk_lt Xo20.out)).trans Xo20.out)
          have Xu21 := Lib.hid ((ha21.block _ (blk_lt Xu20.out)).trans Xu20.out)
          have Xg21 := Lib.hid ((ha21.block _ (blk_lt Xg20.out)).trans Xg20.out)
          have Xw21 := Lib.hid ((ha21.block _ (blk_lt Xw20.out)).trans Xw20.out)
          have Xd21 := Lib.hid ((ha21.block _ (blk_lt Xd20.out)).trans Xd20.out)
          have Xe21 := Lib.hid ((ha21.block _ (blk_lt Xe20.out)).trans Xe20.out)
          have Xa21 := Lib.hid ((ha21.block _ (blk_lt Xa20.out)).trans Xa20.out)
          have Kt21 := Lib.hid (Kd.C_below Kt20.out ha21)
          have Kf21 := Lib.hid (Kd.C_below Kf20.out ha21)
          have Ko21 := Lib.hid (Kd.C_below Ko20.out ha21)
          have Ku21 := Lib.hid (Kd.C_below Ku20.out ha21)
          have Kg21 := Lib.hid (Kd.C_below Kg20.out ha21)
          have Kw21 := Lib.hid (Kd.C_below Kw20.out ha21)
          have Kd21 := Lib.hid (Kd.C_below Kd20.out ha21)
          have Kte21 := Lib.hid (Kd.C_below Kte20.out ha21)
          have Ka21 := Lib.hid (Kd.C_below Ka20.out ha21)
          have Kb21 := Lib.hid (Kd.C_below Kb.out ha21)
          have hs21 := ha21.size
          have hb21 := bstep hb20 hb20.size ha21
          have he21 := bstep he20 he20.size ha21
          have Xb21 := Lib.hid (blk_new w20 (.cells #[.string gt.name, .int .u8 gt.kind, .string gt.data, .slice A9 gt.files.length c9] 25))
          have hz21 : (w20.alloc (.cells #[.string gt.name, .int .u8 gt.kind, .string gt.data, .slice A9 gt.files.length c9] 25)).heap.size = w20.heap.size + 1 := by simp
          have la0 := cell_of (j := 0) Xa21.out rfl
          have la1 := cell_of (j := 1) Xa21.out rfl
          have la2 := cell_of (j := 2) Xa21.out rfl
          have la3 := cell_of (j := 3) Xa21.out rfl
          have lb0 := cell_of (j := 0) Xb21.out rfl
          have lb1 := cell_of (j := 1) Xb21.out rfl
          have lb2 := cell_of (j := 2) Xb21.out rfl
          have lb3 := cell_of (j := 3) Xb21.out rfl
          go_wp2_with fail
          clear la0 la1 la2 la3 lb0 lb1 lb2 lb3
          generalize (w20.alloc (.cells #[.string gt.name, .int .u8 gt.kind, .string gt.data, .slice A9 gt.files.length c9] 25)) = W21 at *
          refine (HSM.out gt A8 c8 A9 c9 _ (by omega) Ka21.out hc8 Kb21.out hc9).mono ?_
          rintro e w22 ⟨rfl, hq22⟩
          have Xt22 := Lib.hid ((hq22.block _ (blk_lt Xt21.out)).trans Xt21.out)
          have Xf22 := Lib.hid ((hq22.block _ (blk_lt Xf21.out)).trans Xf21.out)
          have Xo22 := Lib.hid ((hq22.block _ (blk_lt Xo21.out)).trans Xo21.out)
          have Xu22 := Lib.hid ((hq22.block _ (blk_lt Xu21.out)).trans Xu21.out)
          have Xg22 := Lib.hid ((hq22.block _ (blk_lt Xg21.out)).trans Xg21.out)
          have Xw22 := Lib.hid ((hq22.block _ (blk_lt Xw21.out)).trans Xw21.out)
          have Xd22 := Lib.hid ((hq22.block _ (blk_lt Xd21.out)).trans Xd21.out)
          have Xe22 := Lib.hid ((hq22.block _ (blk_lt Xe21.out)).trans Xe21.out)
          have Xa22 := Lib.hid ((hq22.block _ (blk_lt Xa21.out)).trans Xa21.out)
          have Xb22 := Lib.hid ((hq22.block _ (blk_lt Xb21.out)).trans Xb21.out)
          have Kt22 := Lib.hid (Kd.C_below Kt21.out hq22)
          have Kf22 := Lib.hid (Kd.C_below Kf21.out hq22)
          have Ko22 := Lib.hid (Kd.C_below Ko21.out hq22)
          have Ku22 := Lib.hid (Kd.C_below Ku21.out hq22)
          have Kg22 := Lib.hid (Kd.C_below Kg21.out hq22)
          have Kw22 := Lib.hid (Kd.C_below Kw21.out hq22)
          have Kd22 := Lib.hid (Kd.C_below Kd21.out hq22)
          have Kte22 := Lib.hid (Kd.C_below Kte21.out hq22)
          have Ka22 := Lib.hid (Kd.C_below Ka21.out hq22)
          have Kb22 := Lib.hid (Kd.C_below Kb21.out hq22)
          have hs22 := hq22.size
          have hb22 := bstep hb21 hb21.size hq22
          have he22 := bstep he21 he21.size hq22
          go_wp2_with fail
          go_ret
          exact ⟨rfl, hb22⟩
    · skip
      subst hw
      have hdt := (HFND.out rfl).1
      have hnm := (HFND.out rfl).2
      try simp only at hnm
      have lt0 := cell_of (j := 0) Xt14.out rfl
      have lt1 := cell_of (j := 1) Xt14.out rfl
      have lt2 := cell_of (j := 2) Xt14.out rfl
      have lt3 := cell_of (j := 3) Xt14.out rfl
      go_wp2_with fail
      clear m0 m1 m2 m3
      clear lt0 lt1 lt2 lt3
      generalize ((w12.alloc (.cells #[.string e.name, .int .u8 e.kind, .string e.data, .slice A5 e.files.length c5] 25)).alloc (.cells #[.string t.name, .int .u8 t.kind, .string t.data, .slice A t.files.length c] 25)) = W14 at *
      refine (HDR.out t A c _ (by omega) Kt14.out hc hb14).mono ?_
      rintro e w15 ⟨A6, c6, rfl, hc6, hC6, hq15⟩
      have Xt15 := Lib.hid ((hq15.block _ (blk_lt Xt14.out)).trans Xt14.out)
      have Xf15 := Lib.hid ((hq15.block _ (blk_lt Xf14.out)).trans Xf14.out)
      have Xo15 := Lib.hid ((hq15.block _ (blk_lt Xo14.out)).trans Xo14.out)
      have Xu15 := Lib.hid ((hq15.block _ (blk_lt Xu14.out)).trans Xu14.out)
      have Xg15 := Lib.hid ((hq15.block _ (blk_lt Xg14.out)).trans Xg14.out)
      have Xw15 := Lib.hid ((hq15.block _ (blk_lt Xw14.out)).trans Xw14.out)
      have Xd15 := Lib.hid ((hq15.block _ (blk_lt Xd14.out)).trans Xd14.out)
      have Xe15 := Lib.hid ((hq15.block _ (blk_lt Xe14.out)).trans Xe14.out)
      have Kt15 := Lib.hid (Kd.C_below Kt14.out hq15)
      have Kf15 := Lib.hid (Kd.C_below Kf14.out hq15)
      have Ko15 := Lib.hid (Kd.C_below Ko14.out hq15)
      have Ku15 := Lib.hid (Kd.C_below Ku14.out hq15)
      have Kg15 := Lib.hid (Kd.C_below Kg14.out hq15)
      have Kw15 := Lib.hid (Kd.C_below Kw14.out hq15)
      have Kd15 := Lib.hid (Kd.C_below Kd14.out hq15)
      have hs15 := hq15.size
      have hb15 := bstep hb14 hb14.size hq15
      have he15 := bstep ha14 ha14.size hq15
      rw [hdt] at hc6 hC6
      rw [hdt]
      simp only at hc6 hC6 ⊢
      have HKX := Lib.hid hC6
      have Kx := Lib.hid (hC6 _ fun _ _ _ => rfl)
      clear hC6 hdt
      have ha16 := below_alloc (Below.refl w15.heap.size w15) (.cells #[.string e.name, .int .u8 e.kind, .string e.data, .slice A6 e.files.length c6] 25)
      have Xt16 := Lib.hid ((ha16.block _ (blk_lt Xt15.out)).trans Xt15.out)
      have Xf16 := Lib.hid ((ha16.block _ (blk_lt Xf15.out)).trans Xf15.out)
      have Xo16 := Lib.hid ((ha16.block _ (blk_lt Xo15.out)).trans Xo15.out)
      have Xu16 := Lib.hid ((ha16.block _ (blk_lt Xu15.out)).trans Xu15.out)
      have Xg16 := Lib.hid ((ha16.block _ (blk_lt Xg15.out)).trans Xg15.out)
      have Xw16 := Lib.hid ((ha16.block _ (blk_lt Xw15.out)).trans Xw15.out)
      have Xd16 := Lib.hid ((ha16.block _ (blk_lt Xd15.out)).trans Xd15.out)
      have Xe16 := Lib.hid ((ha16.block _ (blk_lt Xe15.out)).trans Xe15.out)
      have Kt16 := Lib.hid (Kd.C_below Kt15.out ha16)
      have Kf16 := Lib.hid (Kd.C_below Kf15.out ha16)
      have Ko16 := Lib.hid (Kd.C_below Ko15.out ha16)
      have Ku16 := Lib.hid (Kd.C_below Ku15.out ha16)
      have Kg16 := Lib.hid (Kd.C_below Kg15.out ha16)
      have Kw16 := Lib.hid (Kd.C_below Kw15.out ha16)
      have Kd16 := Lib.hid (Kd.C_below Kd15.out ha16)
      have Kx16 := Lib.hid (Kd.C_below Kx.out ha16)
      have hs16 := ha16.size
      have hb16 := bstep hb15 hb15.size ha16
      have he16 := bstep he15 he15.size ha16
      have Xx16 := Lib.hid (blk_new w15 (.cells #[.string e.name, .int .u8 e.kind, .string e.data, .slice A6 e.files.length c6] 25))
      have hz16 : (w15.alloc (.cells #[.string e.name, .int .u8 e.kind, .string e.data, .slice A6 e.files.length c6] 25)).heap.size = w15.heap.size + 1 := by simp
      have ox := cell_of (j := 0) Xo16.out rfl
      have hpx := HX.out _ hb16
      go_wp2_with fail
      generalize (w15.alloc (.cells #[.string e.name, .int .u8 e.kind, .string e.data, .slice A6 e.files.length c6] 25)) = W16 at *
      rw [hnm] at ox
      go_quiet (fail)
      have hq17 := bdrewN (Below.refl W16.heap.size W16) nq
      have Xt17 := Lib.hid ((hq17.block _ (blk_lt Xt16.out)).trans Xt16.out)
      have Xf17 := Lib.hid ((hq17.block _ (blk_lt Xf16.out)).trans Xf16.out)
      have Xo17 := Lib.hid ((hq17.block _ (blk_lt Xo16.out)).trans Xo16.out)
      have Xu17 := Lib.hid ((hq17.block _ (blk_lt Xu16.out)).trans Xu16.out)
      have Xg17 := Lib.hid ((hq17.block _ (blk_lt Xg16.out)).trans Xg16.out)
      have Xw17 := Lib.hid ((hq17.block _ (blk_lt Xw16.out)).trans Xw16.out)
      have Xd17 := Lib.hid ((hq17.block _ (blk_lt Xd16.out)).trans Xd16.out)
      have Xe17 := Lib.hid ((hq17.block _ (blk_lt Xe16.out)).trans Xe16.out)
      have Xx17 := Lib.hid ((hq17.block _ (blk_lt Xx16.out)).trans Xx16.out)
      have Kt17 := Lib.hid (Kd.C_below Kt16.out hq17)
      have Kf17 := Lib.hid (Kd.C_below Kf16.out hq17)
      have Ko17 := Lib.hid (Kd.C_below Ko16.out hq17)
      have Ku17 := Lib.hid (Kd.C_below Ku16.out hq17)
      have Kg17 := Lib.hid (Kd.C_below Kg16.out hq17)
      have Kw17 := Lib.hid (Kd.C_below Kw16.out hq17)
      have Kd17 := Lib.hid (Kd.C_below Kd16.out hq17)
      have Kx17 := Lib.hid (Kd.C_below Kx16.out hq17)
      have hs17 := hq17.size
      have hb17 := bstep hb16 hb16.size hq17
      have he17 := bstep he16 he16.size hq17
      generalize (W16.drewN nq) = W17 at *
      clear ox hpx
      have lx0 := cell_of (j := 0) Xx17.out rfl
      have lx1 := cell_of (j := 1) Xx17.out rfl
      have lx2 := cell_of (j := 2) Xx17.out rfl
      have lx3 := cell_of (j := 3) Xx17.out rfl
      have le0 := cell_of (j := 0) Xe17.out rfl
      have le1 := cell_of (j := 1) Xe17.out rfl
      have le2 := cell_of (j := 2) Xe17.out rfl
      have le3 := cell_of (j := 3) Xe17.out rfl
      have fe0 := unfr Xe17.out 0
      have fe1 := unfr Xe17.out 1
      have fe2 := unfr Xe17.out 2
      have fe3 := unfr Xe17.out 3
      have hst := store4_box Xe17.out (.string e.name) (.int .u8 e.kind) (.string e.data) (.slice A6 e.files.length c6)
      have hso := fun k hk => store4_other W17 (g := w12.heap.size + 1) (k := k) hk (.string e.name) (.int .u8 e.kind) (.string e.data) (.slice A6 e.files.length c6)
      have hsb := store4_below hb17 (g := w12.heap.size + 1) (by omega) (.string e.name) (.int .u8 e.kind) (.string e.data) (.slice A6 e.files.length c6)
      have hsz := blk_lt Xe17.out
      have hbeF := store4_below he17 (g := w12.heap.size + 1) (by omega) (.string e.name) (.int .u8 e.kind) (.string e.data) (.slice A6 e.files.length c6)
      have Kx9 : FileK.C ((((W17.setCell ⟨w12.heap.size + 1, 0, none⟩ (.string e.name)).setCell ⟨w12.heap.size + 1, 1, none⟩ (.int .u8 e.kind)).setCell ⟨w12.heap.size + 1, 2, none⟩ (.string e.data)).setCell ⟨w12.heap.size + 1, 3, none⟩ (.slice A6 e.files.length c6)) A6 e.files.length e.files := HKX.out _ fun k h1 h2 => (hso k (by omega)).trans ((hq17.block k (by omega)).trans (ha16.block k h2))
      obtain ⟨W9, hW9⟩ : ∃ W9, ((((W17.setCell ⟨w12.heap.size + 1, 0, none⟩ (.string e.name)).setCell ⟨w12.heap.size + 1, 1, none⟩ (.int .u8 e.kind)).setCell ⟨w12.heap.size + 1, 2, none⟩ (.string e.data)).setCell ⟨w12.heap.size + 1, 3, none⟩ (.slice A6 e.files.length c6)) = W9 := ⟨_, rfl⟩
      rw [hW9] at hst hso hsb hbeF Kx9
      have Xt19 := Lib.hid ((hso _ (by omega)).trans Xt17.out)
      have Xf19 := Lib.hid ((hso _ (by omega)).trans Xf17.out)
      have Xo19 := Lib.hid ((hso _ (by omega)).trans Xo17.out)
      have Xu19 := Lib.hid ((hso _ (by omega)).trans Xu17.out)
      have Xg19 := Lib.hid ((hso _ (by omega)).trans Xg17.out)
      have Xw19 := Lib.hid ((hso _ (by omega)).trans Xw17.out)
      have Xd19 := Lib.hid ((hso _ (by omega)).trans Xd17.out)
      have Xe19 := Lib.hid hst
      have Xx19 := Lib.hid ((hso _ (by omega)).trans Xx17.out)
      have Kt19 := Lib.hid (Kd.C_below Kt13.out hbeF)
      have Kf19 := Lib.hid (Kd.C_below Kf13.out hbeF)
      have Ko19 := Lib.hid (Kd.C_below Ko13.out hbeF)
      have Ku19 := Lib.hid (Kd.C_below Ku13.out hbeF)
      have Kg19 := Lib.hid (Kd.C_below Kg13.out hbeF)
      have Kw19 := Lib.hid (Kd.C_below Kw13.out hbeF)
      have Kd19 := Lib.hid (Kd.C_below Kd13.out hbeF)
      have Kx19 := Lib.hid Kx9
      have hs19 := hsb.size
      have nd0 := cell_of (j := 0) Xd19.out rfl
      have ne0 := cell_of (j := 0) Xe19.out rfl
      have nd1 := cell_of (j := 1) Xd19.out rfl
      have ne1 := cell_of (j := 1) Xe19.out rfl
      have nd2 := cell_of (j := 2) Xd19.out rfl
      have ne2 := cell_of (j := 2) Xe19.out rfl
      have nd3 := cell_of (j := 3) Xd19.out rfl
      have ne3 := cell_of (j := 3) Xe19.out rfl
      go_wp2_with fail
      clear hW9 nd0 ne0 fe0 nd1 ne1 fe1 nd2 ne2 fe2 nd3 ne3 fe3
      clear lx0 lx1 lx2 lx3 le0 le1 le2 le3
      refine (HSM.out e A5 c5 A6 c6 _ heb2 Kd19.out hc5 Kx19.out hc6).mono ?_
      rintro e w20 ⟨rfl, hq20⟩
      have Xt20 := Lib.hid ((hq20.block _ (blk_lt Xt19.out)).trans Xt19.out)
      have Xf20 := Lib.hid ((hq20.block _ (blk_lt Xf19.out)).trans Xf19.out)
      have Xo20 := Lib.hid ((hq20.block _ (blk_lt Xo19.out)).trans Xo19.out)
      have Xu20 := Lib.hid ((hq20.block _ (blk_lt Xu19.out)).trans Xu19.out)
      have Xg20 := Lib.hid ((hq20.block _ (blk_lt Xg19.out)).trans Xg19.out)
      have Xw20 := Lib.hid ((hq20.block _ (blk_lt Xw19.out)).trans Xw19.out)
      have Xd20 := Lib.hid ((hq20.block _ (blk_lt Xd19.out)).trans Xd19.out)
      have Xe20 := Lib.hid ((hq20.block _ (blk_lt Xe19.out)).trans Xe19.out)
      have Xx20 := Lib.hid ((hq20.block _ (blk_lt Xx19.out)).trans Xx19.out)
      have Kt20 := Lib.hid (Kd.C_below Kt19.out hq20)
      have Kf20 := Lib.hid (Kd.C_below Kf19.out hq20)
      have Ko20 := Lib.hid (Kd.C_below Ko19.out hq20)
      have Ku20 := Lib.hid (Kd.C_below Ku19.out hq20)
      have Kg20 := Lib.hid (Kd.C_below Kg19.out hq20)
      have Kw20 := Lib.hid (Kd.C_below Kw19.out hq20)
      have Kd20 := Lib.hid (Kd.C_below Kd19.out hq20)
      have Kx20 := Lib.hid (Kd.C_below Kx19.out hq20)
      have hs20 := hq20.size
      have hb20 := bstep hsb hsb.size hq20
      go_wp2_with fail
      refine (HBE1.out _ hb20).mono ?_
      rintro e w21 ⟨rfl, hq21⟩
      have Xt21 := Lib.hid ((hq21.block _ (blk_lt Xt20.out)).trans Xt20.out)
      have Xf21 := Lib.hid ((hq21.block _ (blk_lt Xf20.out)).trans Xf20.out)
      have Xo21 := Lib.hid ((hq21.block _ (blk_lt Xo20.out)).trans Xo20.out)
      have Xu21 := Lib.hid ((hq21.block _ (blk_lt Xu20.out)).trans Xu20.out)
      have Xg21 := Lib.hid ((hq21.block _ (blk_lt Xg20.out)).trans Xg20.out)
      have Xw21 := Lib.hid ((hq21.block _ (blk_lt Xw20.out)).trans Xw20.out)
      have Xd21 := Lib.hid ((hq21.block _ (blk_lt Xd20.out)).trans Xd20.out)
      have Xe21 := Lib.hid ((hq21.block _ (blk_lt Xe20.out)).trans Xe20.out)
      have Xx21 := Lib.hid ((hq21.block _ (blk_lt Xx20.out)).trans Xx20.out)
      have Kt21 := Lib.hid (Kd.C_below Kt20.out hq21)
      have Kf21 := Lib.hid (Kd.C_below Kf20.out hq21)
      have Ko21 := Lib.hid (Kd.C_below Ko20.out hq21)
      have Ku21 := Lib.hid (Kd.C_below Ku20.out hq21)
      have Kg21 := Lib.hid (Kd.C_below Kg20.out hq21)
      have Kw21 := Lib.hid (Kd.C_below Kw20.out hq21)
      have Kd21 := Lib.hid (Kd.C_below Kd20.out hq21)
      have Kx21 := Lib.hid (Kd.C_below Kx20.out hq21)
      have hs21 := hq21.size
      have hb21 := bstep hb20 hb20.size hq21
      cases hb1p : decide ((q ++ [n]) <+: r)
      rotate_left
      · go_wp2_with fail
        go_ret
        exact ⟨rfl, hb21⟩
      · skip
        go_wp2_with fail
        refine (HBE2.out _ hb21).mono ?_
        rintro e w22 ⟨rfl, hq22⟩
        have Xt22 := Lib.hid ((hq22.block _ (blk_lt Xt21.out)).trans Xt21.out)
        have Xf22 := Lib.hid ((hq22.block _ (blk_lt Xf21.out)).trans Xf21.out)
        have Xo22 := Lib.hid ((hq22.block _ (blk_lt Xo21.out)).trans Xo21.out)
        have Xu22 := Lib.hid ((hq22.block _ (blk_lt Xu21.out)).trans Xu21.out)
        have Xg22 := Lib.hid ((hq22.block _ (blk_lt Xg21.out)).trans Xg21.out)
        have Xw22 := Lib.hid ((hq22.block _ (blk_lt Xw21.out)).trans Xw21.out)
        have Xd22 := Lib.hid ((hq22.block _ (blk_lt Xd21.out)).trans Xd21.out)
        have Xe22 := Lib.hid ((hq22.block _ (blk_lt Xe21.out)).trans Xe21.out)
        have Xx22 := Lib.hid ((hq22.block _ (blk_lt Xx21.out)).trans Xx21.out)
        have Kt22 := Lib.hid (Kd.C_below Kt21.out hq22)
        have Kf22 := Lib.hid (Kd.C_below Kf21.out hq22)
        have Ko22 := Lib.hid (Kd.C_below Ko21.out hq22)
        have Ku22 := Lib.hid (Kd.C_below Ku21.out hq22)
        have Kg22 := Lib.hid (Kd.C_below Kg21.out hq22)
        have Kw22 := Lib.hid (Kd.C_below Kw21.out hq22)
        have Kd22 := Lib.hid (Kd.C_below Kd21.out hq22)
        have Kx22 := Lib.hid (Kd.C_below Kx21.out hq22)
        have hs22 := hq22.size
        have hb22 := bstep hb21 hb21.size hq22
        cases hb2p : decide (r <+: (q ++ [n]))
        rotate_left
        · go_wp2_with fail
          go_ret
          exact ⟨rfl, hb22⟩
        · skip
          have hapr := HAP.out r (of_decide_eq_false hb1p) (of_decide_eq_false hb2p)
          have lt0 := cell_of (j := 0) Xt22.out rfl
          have lt1 := cell_of (j := 1) Xt22.out rfl
          have lt2 := cell_of (j := 2) Xt22.out rfl
          have lt3 := cell_of (j := 3) Xt22.out rfl
          go_wp2_with fail
          clear lt0 lt1 lt2 lt3
          refine (HGETR.out t A c _ (by omega) Kt22.out hc hb22).mono ?_
          rintro e w23 ⟨A8, c8, rfl, hc8, hC8, hq23⟩
          have Xt23 := Lib.hid ((hq23.block _ (blk_lt Xt22.out)).trans Xt22.out)
          have Xf23 := Lib.hid ((hq23.block _ (blk_lt Xf22.out)).trans Xf22.out)
          have Xo23 := Lib.hid ((hq23.block _ (blk_lt Xo22.out)).trans Xo22.out)
          have Xu23 := Lib.hid ((hq23.block _ (blk_lt Xu22.out)).trans Xu22.out)
          have Xg23 := Lib.hid ((hq23.block _ (blk_lt Xg22.out)).trans Xg22.out)
          have Xw23 := Lib.hid ((hq23.block _ (blk_lt Xw22.out)).trans Xw22.out)
          have Xd23 := Lib.hid ((hq23.block _ (blk_lt Xd22.out)).trans Xd22.out)
          have Xe23 := Lib.hid ((hq23.block _ (blk_lt Xe22.out)).trans Xe22.out)
          have Xx23 := Lib.hid ((hq23.block _ (blk_lt Xx22.out)).trans Xx22.out)
          have Kt23 := Lib.hid (Kd.C_below Kt22.out hq23)
          have Kf23 := Lib.hid (Kd.C_below Kf22.out hq23)
          have Ko23 := Lib.hid (Kd.C_below Ko22.out hq23)
          have Ku23 := Lib.hid (Kd.C_below Ku22.out hq23)
          have Kg23 := Lib.hid (Kd.C_below Kg22.out hq23)
          have Kw23 := Lib.hid (Kd.C_below Kw22.out hq23)
          have Kd23 := Lib.hid (Kd.C_below Kd22.out hq23)
          have Kx23 := Lib.hid (Kd.C_below Kx22.out hq23)
          have hs23 := hq23.size
          have hb23 := bstep hb22 hb22.size hq23
          obtain ⟨⟨gt, kt⟩, hgt⟩ : ∃ x, getR t r = x := ⟨_, rfl⟩
          rw [hgt] at HGB2 hc8 hC8 hapr
          rw [hgt]
          simp only at hc8 hC8 ⊢
          have hgtb : gt.bulk ≤ t.bulk + 4 := HGB2.out
          have Ka := Lib.hid hC8
          clear hC8 hgt
          have ha24 := below_alloc (Below.refl w23.heap.size w23) (.cells #[.string gt.name, .int .u8 gt.kind, .string gt.data, .slice A8 gt.files.length c8] 25)
          have Xt24 := Lib.hid ((ha24.block _ (blk_lt Xt23.out)).trans Xt23.out)
          have Xf24 := Lib.hid ((ha24.block _ (blk_lt Xf23.out)).trans Xf23.out)
          have Xo24 := Lib.hid ((ha24.block _ (blk_lt Xo23.out)).trans Xo23.out)
          have Xu24 := Lib.hid ((ha24.block _ (blk_lt Xu23.out)).trans Xu23.out)
          have Xg24 := Lib.hid ((ha24.block _ (blk_lt Xg23.out)).trans Xg23.out)
          have Xw24 := Lib.hid ((ha24.block _ (blk_lt Xw23.out)).trans Xw23.out)
          have Xd24 := Lib.hid ((ha24.block _ (blk_lt Xd23.out)).trans Xd23.out)
          have Xe24 := Lib.hid ((ha24.block _ (blk_lt Xe23.out)).trans Xe23.out)
          have Xx24 := Lib.hid ((ha24.block _ (blk_lt Xx23.out)).trans Xx23.out)
          have Kt24 := Lib.hid (Kd.C_below Kt23.out ha24)
          have Kf24 := Lib.hid (Kd.C_below Kf23.out ha24)
          have Ko24 := Lib.hid (Kd.C_below Ko23.out ha24)
          have Ku24 := Lib.hid (Kd.C_below Ku23.out ha24)
          have Kg24 := Lib.hid (Kd.C_below Kg23.out ha24)
          have Kw24 := Lib.hid (Kd.C_below Kw23.out ha24)
          have Kd24 := Lib.hid (Kd.C_below Kd23.out ha24)
          have Kx24 := Lib.hid (Kd.C_below Kx23.out ha24)
          have Ka24 := Lib.hid (Kd.C_below Ka.out ha24)
          have hs24 := ha24.size
          have hb24 := bstep hb23 hb23.size ha24
          have Xa24 := Lib.hid (blk_new w23 (.cells #[.string gt.name, .int .u8 gt.kind, .string gt.data, .slice A8 gt.files.length c8] 25))
          have hz24 : (w23.alloc (.cells #[.string gt.name, .int .u8 gt.kind, .string gt.data, .slice A8 gt.files.length c8] 25)).heap.size = w23.heap.size + 1 := by simp
          have lu0 := cell_of (j := 0) Xu24.out rfl
          have lu1 := cell_of (j := 1) Xu24.out rfl
          have lu2 := cell_of (j := 2) Xu24.out rfl
          have lu3 := cell_of (j := 3) Xu24.out rfl
          go_wp2_with fail
          clear lu0 lu1 lu2 lu3
          generalize (w23.alloc (.cells #[.string gt.name, .int .u8 gt.kind, .string gt.data, .slice A8 gt.files.length c8] 25)) = W24 at *
          refine (HGETR.out u A2 c2 _ hub2 Ku24.out hc2 hb24).mono ?_
          rintro e w25 ⟨A9, c9, rfl, hc9, hC9, hq25⟩
          have Xt25 := Lib.hid ((hq25.block _ (blk_lt Xt24.out)).trans Xt24.out)
          have Xf25 := Lib.hid ((hq25.block _ (blk_lt Xf24.out)).trans Xf24.out)
          have Xo25 := Lib.hid ((hq25.block _ (blk_lt Xo24.out)).trans Xo24.out)
          have Xu25 := Lib.hid ((hq25.block _ (blk_lt Xu24.out)).trans Xu24.out)
          have Xg25 := Lib.hid ((hq25.block _ (blk_lt Xg24.out)).trans Xg24.out)
          have Xw25 := Lib.hid ((hq25.block _ (blk_lt Xw24.out)).trans Xw24.out)
          have Xd25 := Lib.hid ((hq25.block _ (blk_lt Xd24.out)).trans Xd24.out)
          have Xe25 := Lib.hid ((hq25.block _ (blk_lt Xe24.out)).trans Xe24.out)
          have Xx25 := Lib.hid ((hq25.block _ (blk_lt Xx24.out)).trans Xx24.out)
          have Xa25 := Lib.hid ((hq25.block _ (blk_lt Xa24.out)).trans Xa24.out)
          have Kt25 := Lib.hid (Kd.C_below Kt24.out hq25)
          have Kf25 := Lib.hid (Kd.C_below Kf24.out hq25)
          have Ko25 := Lib.hid (Kd.C_below Ko24.out hq25)
          have Ku25 := Lib.hid (Kd.C_below Ku24.out hq25)
          have Kg25 := Lib.hid (Kd.C_below Kg24.out hq25)
          have Kw25 := Lib.hid (Kd.C_below Kw24.out hq25)
          have Kd25 := Lib.hid (Kd.C_below Kd24.out hq25)
          have Kx25 := Lib.hid (Kd.C_below Kx24.out hq25)
          have Ka25 := Lib.hid (Kd.C_below Ka24.out hq25)
          have hs25 := hq25.size
          have hb25 := bstep hb24 hb24.size hq25
          rw [hapr] at hc9 hC9
          rw [hapr]
          simp only at hc9 hC9 ⊢
          have Kb := Lib.hid hC9
          clear hC9 hapr
          have ha26 := below_alloc (Below.refl w25.heap.size w25) (.cells #[.string gt.name, .int .u8 gt.kind, .string gt.data, .slice A9 gt.files.length c9] 25)
          have Xt26 := Lib.hid ((ha26.block _ (blk_lt Xt25.out)).trans Xt25.out)
          have Xf26 := Lib.hid ((ha26.block _ (blk_lt Xf25.out)).trans Xf25.out)
          have Xo26 := Lib.hid ((ha26.block _ (blk_lt Xo25.out)).trans Xo25.out)
          have Xu26 := Lib.hid ((ha26.block _ (blk_lt Xu25.out)).trans Xu25.out)
          have Xg26 := Lib.hid ((ha26.block _ (blk_lt Xg25.out)).trans Xg25.out)
          have Xw26 := Lib.hid ((ha26.block _ (blk_lt Xw25.out)).trans Xw25.out)
          have Xd26 := Lib.hid ((ha26.block _ (blk_lt Xd25.out)).trans Xd25.out)
          have Xe26 := Lib.hid ((ha26.block _ (blk_lt Xe25.out)).trans Xe25.out)
          have Xx26 := Lib.hid ((ha26.block _ (blk_lt Xx25.out)).trans Xx25.out)
          have Xa26 := Lib.hid ((ha26.block _ (blk_lt Xa25.out)).trans Xa25.out)
          have Kt26 := Lib.hid (Kd.C_below Kt25.out ha26)
          have Kf26 := Lib.hid (Kd.C_below Kf25.out ha26)
          have Ko26 := Lib.hid (Kd.C_below Ko25.out ha26)
          have Ku26 := Lib.hid (Kd.C_below Ku25.out ha26)
          have Kg26 := Lib.hid (Kd.C_below Kg25.out ha26)
          have Kw26 := Lib.hid (Kd.C_below Kw25.out ha26)
          have Kd26 := Lib.hid (Kd.C_below Kd25.out ha26)
          have Kx26 := Lib.hid (Kd.C_below Kx25.out ha26)
          have Ka26 := Lib.hid (Kd.C_below Ka25.out ha26)
          have Kb26 := Lib.hid (Kd.C_below Kb.out ha26)
          have hs26 := ha26.size
          have hb26 := bstep hb25 hb25.size ha26
          have Xb26 := Lib.hid (blk_new w25 (.cells #[.string gt.name, .int .u8 gt.kind, .string gt.data, .slice A9 gt.files.length c9] 25))
          have hz26 : (w25.alloc (.cells #[.string gt.name, .int .u8 gt.kind, .string gt.data, .slice A9 gt.files.length c9] 25)).heap.size = w25.heap.size + 1 := by simp
          have la0 := cell_of (j := 0) Xa26.out rfl
          have la1 := cell_of (j := 1) Xa26.out rfl
          have la2 := cell_of (j := 2) Xa26.out rfl
          have la3 := cell_of (j := 3) Xa26.out rfl
          have lb0 := cell_of (j := 0) Xb26.out rfl
          have lb1 := cell_of (j := 1) Xb26.out rfl
          have lb2 := cell_of (j := 2) Xb26.out rfl
          have lb3 := cell_of (j := 3) Xb26.out rfl
          go_wp2_with fail
          clear la0 la1 la2 la3 lb0 lb1 lb2 lb3
          generalize (w25.alloc (.cells #[.string gt.name, .int .u8 gt.kind, .string gt.data, .slice A9 gt.files.length c9] 25)) = W26 at *
          refine (HSM.out gt A8 c8 A9 c9 _ (by omega) Ka26.out hc8 Kb26.out hc9).mono ?_
          rintro e w27 ⟨rfl, hq27⟩
          have Xt27 := Lib.hid ((hq27.block _ (blk_lt Xt26.out)).trans Xt26.out)
          have Xf27 := Lib.hid ((hq27.block _ (blk_lt Xf26.out)).trans Xf26.out)
          have Xo27 := Lib.hid ((hq27.block _ (blk_lt Xo26.out)).trans Xo26.out)
          have Xu27 := Lib.hid ((hq27.block _ (blk_lt Xu26.out)).trans Xu26.out)
          have Xg27 := Lib.hid ((hq27.block _ (blk_lt Xg26.out)).trans Xg26.out)
          have Xw27 := Lib.hid ((hq27.block _ (blk_lt Xw26.out)).trans Xw26.out)
          have Xd27 := Lib.hid ((hq27.block _ (blk_lt Xd26.out)).trans Xd26.out)
          have Xe27 := Lib.hid ((hq27.block _ (blk_lt Xe26.out)).trans Xe26.out)
          have Xx27 := Lib.hid ((hq27.block _ (blk_lt Xx26.out)).trans Xx26.out)
          have Xa27 := Lib.hid ((hq27.block _ (blk_lt Xa26.out)).trans Xa26.out)
          have Xb27 := Lib.hid ((hq27.block _ (blk_lt Xb26.out)).trans Xb26.out)
          have Kt27 := Lib.hid (Kd.C_below Kt26.out hq27)
          have Kf27 := Lib.hid (Kd.C_below Kf26.out hq27)
          have Ko27 := Lib.hid (Kd.C_below Ko26.out hq27)
          have Ku27 := Lib.hid (Kd.C_below Ku26.out hq27)
          have Kg27 := Lib.hid (Kd.C_below Kg26.out hq27)
          have Kw27 := Lib.hid (Kd.C_below Kw26.out hq27)
          have Kd27 := Lib.hid (Kd.C_below Kd26.out hq27)
          have Kx27 := Lib.hid (Kd.C_below Kx26.out hq27)
          have Ka27 := Lib.hid (Kd.C_below Ka26.out hq27)
          have Kb27 := Lib.hid (Kd.C_below Kb26.out hq27)
          have hs27 := hq27.size
          have hb27 := bstep hb26 hb26.size hq27
          go_wp2_with fail
          go_ret
          exact ⟨rfl, hb27⟩
end
section
set_option maxHeartbeats 8000000 in
set_option maxRecDepth 100000 in
theorem put0_calls (t f : File) (A Af : Option Addr) (c cf : Nat) (Ap : Option Addr) (cp : Nat) (w : World) (hr : FileK.C w A t.files.length t.files) (hc : t.files.length ≤ c) (hbt : t.bulk ≤ 1000000000) :
    Calls Tryd.prog 22 #[fileV t A c, .slice Ap 0 cp, fileV f Af cf] w fun e w' => ∃ k : Int, e = .returned (.tuple #[.agg #[.string ⟨#[]⟩, .int .u8 0, .string ⟨#[]⟩, .slice none 0 0], .int .i64 k]) ∧ k ≠ 0 ∧ Below w.heap.size w w' := by
  have h3 := three_all w #[.string t.name, .int .u8 t.kind, .string t.data, .slice A t.files.length c] #[.string f.name, .int .u8 f.kind, .string f.data, .slice Af f.files.length cf] #[.string ⟨#[]⟩, .int .u8 0, .string ⟨#[]⟩, .slice none 0 0] 25 25 25
  have hb0 := (((Below.refl w.heap.size w).alloc (Nat.le_refl _) (.cells #[.string t.name, .int .u8 t.kind, .string t.data, .slice A t.files.length c] 25)).alloc (by simp) (.cells #[.string f.name, .int .u8 f.kind, .string f.data, .slice Af f.files.length cf] 25)).alloc (by simp; omega) (.cells #[.string ⟨#[]⟩, .int .u8 0, .string ⟨#[]⟩, .slice none 0 0] 25)
  have HRT := Lib.hid (fun W (h : Below w.heap.size w W) => (show Calls Tryd.prog 28 #[.agg #[.string t.name, .int .u8 t.kind, .string t.data, .slice A t.files.length c]] W _ from right_calls t A c W (by omega) (Kd.C_below hr h) hc))
  have H1 := Lib.hid h3.1
  have H3 := Lib.hid h3.2.2
  have t0 := cell_of (j := 0) h3.1 rfl
  have t1 := cell_of (j := 1) h3.1 rfl
  have t2 := cell_of (j := 2) h3.1 rfl
  have t3 := cell_of (j := 3) h3.1 rfl
  clear hr h3
  go_enter Tryd.func22, Tryd.ntmps22
  unfold fileV
  go_wp2_with fail
  generalize (((w.alloc (.cells #[.string t.name, .int .u8 t.kind, .string t.data, .slice A t.files.length c] 25)).alloc (.cells #[.string f.name, .int .u8 f.kind, .string f.data, .slice Af f.files.length cf] 25)).alloc (.cells #[.string ⟨#[]⟩, .int .u8 0, .string ⟨#[]⟩, .slice none 0 0] 25)) = W0 at *
  have hz0 := blk_lt H3.out
  refine (HRT.out _ hb0).mono ?_
  rintro e w1 ⟨rfl, hb1'⟩
  have hs1 := hb1'.size
  have hb1 := bstep hb0 hb0.size hb1'
  have HZ1 := Lib.hid ((hb1'.block _ (blk_lt H3.out)).trans H3.out)
  clear t0 t1 t2 t3
  cases hrt : rightT t
  · skip
    have HZF := Lib.hid (store4_box HZ1.out (.string ⟨#[]⟩) (.int .u8 0) (.string ⟨#[]⟩) (.slice none 0 0))
    have HBF := Lib.hid (store4_below hb1 (g := w.heap.size + 2) (by omega) (.string ⟨#[]⟩) (.int .u8 0) (.string ⟨#[]⟩) (.slice none 0 0))
    have z0 := cell_of (j := 0) HZ1.out rfl
    have z1 := cell_of (j := 1) HZ1.out rfl
    have z2 := cell_of (j := 2) HZ1.out rfl
    have z3 := cell_of (j := 3) HZ1.out rfl
    have u0 := unfr HZ1.out 0
    have u1 := unfr HZ1.out 1
    have u2 := unfr HZ1.out 2
    have u3 := unfr HZ1.out 3
    go_wp2_with fail
    refine bodyPost_ret (results_ct rfl _ _ (w.heap.size + 2) 25 #[.string ⟨#[]⟩, .int .u8 0, .string ⟨#[]⟩, .slice none 0 0] (0, 0) _ rfl HZF.out Tryd.underlying25 rfl (by kernel_rfl)) rfl ?_
    exact ⟨_, rfl, by decide, HBF.out⟩
  · skip
    have HZF := Lib.hid (store4_box HZ1.out (.string ⟨#[]⟩) (.int .u8 0) (.string ⟨#[]⟩) (.slice none 0 0))
    have HBF := Lib.hid (store4_below hb1 (g := w.heap.size + 2) (by omega) (.string ⟨#[]⟩) (.int .u8 0) (.string ⟨#[]⟩) (.slice none 0 0))
    have z0 := cell_of (j := 0) HZ1.out rfl
    have z1 := cell_of (j := 1) HZ1.out rfl
    have z2 := cell_of (j := 2) HZ1.out rfl
    have z3 := cell_of (j := 3) HZ1.out rfl
    have u0 := unfr HZ1.out 0
    have u1 := unfr HZ1.out 1
    have u2 := unfr HZ1.out 2
    have u3 := unfr HZ1.out 3
    go_wp2_with fail
    refine bodyPost_ret (results_ct rfl _ _ (w.heap.size + 2) 25 #[.string ⟨#[]⟩, .int .u8 0, .string ⟨#[]⟩, .slice none 0 0] (0, 0) _ rfl HZF.out Tryd.underlying25 rfl (by kernel_rfl)) rfl ?_
    exact ⟨_, rfl, by decide, HBF.out⟩

set_option maxHeartbeats 8000000 in
set_option maxRecDepth 100000 in
theorem lputs0_calls (t f : File) (A Af Ap Ar : Option Addr) (c cf cp cr : Nat) (r : List ByteArray) (w : World) (ht : FileK.C w A t.files.length t.files) (hc : t.files.length ≤ c) (hbt : t.bulk ≤ 1048576) (hG : Tab w) (hM : Maxed w) :
    Calls Tryd.prog 6 #[fileV t A c, .slice Ap 0 cp, fileV f Af cf, .slice Ar r.length cr] w fun e w' => e = .returned (.bool true) ∧ Below w.heap.size w w' := by
  have HG := Lib.hid hG
  have HM := Lib.hid hM
  have HRT := Lib.hid ht
  have h2 := two_boxes w #[.string t.name, .int .u8 t.kind, .string t.data, .slice A t.files.length c] #[.string f.name, .int .u8 f.kind, .string f.data, .slice Af f.files.length cf] 25 25
  have hb0 := ((Below.refl w.heap.size w).alloc (Nat.le_refl _) (.cells #[.string t.name, .int .u8 t.kind, .string t.data, .slice A t.files.length c] 25)).alloc (by simp) (.cells #[.string f.name, .int .u8 f.kind, .string f.data, .slice Af f.files.length cf] 25)
  have HLV : Hid (∀ W, Below w.heap.size w W → Calls Tryd.prog 7 #[] W fun e w' => e = .returned (.bool true) ∧ Below W.heap.size W w') := Lib.hid fun W h => lives_calls W (Tab_b HG.out h) (Maxed_below HM.out h)
  have HGET : Hid (∀ W, Below w.heap.size w W → Calls Tryd.prog 20 #[.agg #[.string t.name, .int .u8 t.kind, .string t.data, .slice A t.files.length c], .slice Ap 0 cp] W fun e w' => ∃ A' c', e = .returned (.tuple #[.agg #[.string (getR t []).1.name, .int .u8 (getR t []).1.kind, .string (getR t []).1.data, .slice A' (getR t []).1.files.length c'], .int .i64 (getR t []).2]) ∧ Below W.heap.size W w') := Lib.hid fun W h => by
    refine (show Calls Tryd.prog 20 #[fileV t A c, .slice Ap ([] : List ByteArray).length cp] W _ from Get_calls t A c Ap cp [] W (Kd.C_below HRT.out h) hc (by omega) ⟨rfl, by simp, fun h => absurd h (Nat.lt_irrefl 0)⟩ (Nat.zero_le _) (by simp)).mono ?_
    rintro e w' ⟨v, rfl, hR, hb⟩
    obtain ⟨A', c', rfl, hc', hC'⟩ := Kd.R_reads hR
    exact ⟨A', c', rfl, hb⟩
  have HPU : Hid (∀ W, Below w.heap.size w W → Calls Tryd.prog 22 #[.agg #[.string t.name, .int .u8 t.kind, .string t.data, .slice A t.files.length c], .slice Ap 0 cp, .agg #[.string f.name, .int .u8 f.kind, .string f.data, .slice Af f.files.length cf]] W fun e w' => ∃ k : Int, e = .returned (.tuple #[.agg #[.string ⟨#[]⟩, .int .u8 0, .string ⟨#[]⟩, .slice none 0 0], .int .i64 k]) ∧ k ≠ 0 ∧ Below W.heap.size W w') := Lib.hid fun W h => put0_calls t f A Af c cf Ap cp W (Kd.C_below HRT.out h) hc (by omega)
  have HSM : Hid (∀ W, Calls Tryd.prog 11 #[.agg #[.string ⟨#[]⟩, .int .u8 0, .string ⟨#[]⟩, .slice none 0 0], .agg #[.string ⟨#[]⟩, .int .u8 0, .string ⟨#[]⟩, .slice none 0 0]] W fun e w' => e = .returned (.bool true) ∧ Below W.heap.size W w') := Lib.hid fun W =>
    (show Calls Tryd.prog 11 #[fileV zeroF none 0, fileV zeroF none 0] W _ from rsame_file _ zeroF zeroF none 0 none 0 W (Nat.le_refl _) (by rw [zero_bulk]; omega) (Kd.C_nil FileK _) (Nat.le_refl _) (Kd.C_nil FileK _) (Nat.le_refl _)).mono (by
      rintro e w' ⟨rfl, hb⟩
      exact ⟨by rw [sameT_self], hb⟩)
  have Xt0 := Lib.hid h2.1
  have Xf0 := Lib.hid h2.2
  clear hG hM ht h2
  go_enter Tryd.func6, Tryd.ntmps6
  unfold fileV
  go_wp2_with fail
  generalize (w.alloc (.cells #[.string t.name, .int .u8 t.kind, .string t.data, .slice A t.files.length c] 25)).alloc (.cells #[.string f.name, .int .u8 f.kind, .string f.data, .slice Af f.files.length cf] 25) = W0 at *
  refine (HLV.out _ hb0).mono ?_
  rintro e w1 ⟨rfl, hb1'⟩
  have hb1 := bstep hb0 hb0.size hb1'
  have Xt1 := Lib.hid ((hb1'.block _ (blk_lt Xt0.out)).trans Xt0.out)
  have Xf1 := Lib.hid ((hb1'.block _ (blk_lt Xf0.out)).trans Xf0.out)
  have l0 := cell_of (j := 0) Xt1.out rfl
  have l1 := cell_of (j := 1) Xt1.out rfl
  have l2 := cell_of (j := 2) Xt1.out rfl
  have l3 := cell_of (j := 3) Xt1.out rfl
  go_wp2_with fail
  clear l0 l1 l2 l3
  refine (HGET.out _ hb1).mono ?_
  rintro e w2 ⟨A1, c1, rfl, hb2'⟩
  generalize getR t [] = old at *
  have hb2 := bstep hb1 hb1.size hb2'
  have Xt2 := Lib.hid ((hb2'.block _ (blk_lt Xt1.out)).trans Xt1.out)
  have Xf2 := Lib.hid ((hb2'.block _ (blk_lt Xf1.out)).trans Xf1.out)
  have ha := below_alloc (Below.refl w2.heap.size w2) (.cells #[.string old.1.name, .int .u8 old.1.kind, .string old.1.data, .slice A1 old.1.files.length c1] 25)
  have hb3 := bstep hb2 hb2.size ha
  have Xt3 := Lib.hid ((ha.block _ (blk_lt Xt2.out)).trans Xt2.out)
  have Xf3 := Lib.hid ((ha.block _ (blk_lt Xf2.out)).trans Xf2.out)
  have l0 := cell_of (j := 0) Xt3.out rfl
  have l1 := cell_of (j := 1) Xt3.out rfl
  have l2 := cell_of (j := 2) Xt3.out rfl
  have l3 := cell_of (j := 3) Xt3.out rfl
  have m0 := cell_of (j := 0) Xf3.out rfl
  have m1 := cell_of (j := 1) Xf3.out rfl
  have m2 := cell_of (j := 2) Xf3.out rfl
  have m3 := cell_of (j := 3) Xf3.out rfl
  go_wp2_with fail
  clear l0 l1 l2 l3 m0 m1 m2 m3
  generalize w2.alloc (.cells #[.string old.1.name, .int .u8 old.1.kind, .string old.1.data, .slice A1 old.1.files.length c1] 25) = W3 at *
  refine (HPU.out _ hb3).mono ?_
  rintro e w4 ⟨k, rfl, hk0, hb4'⟩
  have hb4 := bstep hb3 hb3.size hb4'
  have ha4 := below_alloc (Below.refl w4.heap.size w4) (.cells #[.string ⟨#[]⟩, .int .u8 0, .string ⟨#[]⟩, .slice none 0 0] 25)
  have hb5 := bstep hb4 hb4.size ha4
  have Xu := Lib.hid (blk_new w4 (.cells #[.string ⟨#[]⟩, .int .u8 0, .string ⟨#[]⟩, .slice none 0 0] 25))
  have l0 := cell_of (j := 0) Xu.out rfl
  have l1 := cell_of (j := 1) Xu.out rfl
  have l2 := cell_of (j := 2) Xu.out rfl
  have l3 := cell_of (j := 3) Xu.out rfl
  have k1 : (k != 0) = true := by rw [bne_iff_ne]; exact hk0
  go_wp2_with fail
  clear l0 l1 l2 l3
  generalize w4.alloc (.cells #[.string ⟨#[]⟩, .int .u8 0, .string ⟨#[]⟩, .slice none 0 0] 25) = W5 at *
  refine (HSM.out _).mono ?_
  rintro e w6 ⟨rfl, hb6'⟩
  have hb6 := bstep hb5 hb5.size hb6'
  go_wp2_with fail
  go_ret
  exact ⟨rfl, hb6⟩

theorem p_cases (p : List ByteArray) : p = [] ∨ ∃ q n, p = q ++ [n] := by
  by_cases h : p = []
  · exact .inl h
  · exact .inr ⟨p.dropLast, p.getLast h, (List.dropLast_concat_getLast h).symm⟩
theorem lputs_all (t : File) (A : Option Addr) (c : Nat) (Ap : Option Addr) (cp : Nat) (p : List ByteArray) (f : File) (Af : Option Addr) (cf : Nat) (Ar : Option Addr) (cr : Nat) (r : List ByteArray) (w : World) (ht : FileK.C w A t.files.length t.files) (hc : t.files.length ≤ c) (hbt : t.bulk ≤ 1048576) (hp : Kd.C Kd.string w Ap p.length p) (hcp : p.length ≤ cp) (hpb : sumP p ≤ 1048576) (hf : FileK.C w Af f.files.length f.files) (hcf : f.files.length ≤ cf) (hbf : f.bulk ≤ 1048576) (hr : Kd.C Kd.string w Ar r.length r) (hcr : r.length ≤ cr) (hrb : sumP r ≤ 1048576) (hG : Tab w) (hM : Maxed w) :
    Calls Tryd.prog 6 #[fileV t A c, .slice Ap p.length cp, fileV f Af cf, .slice Ar r.length cr] w fun e w' => e = .returned (.bool true) ∧ Below w.heap.size w w' := by
  have hrl := sumP_len r
  rcases p_cases p with rfl | ⟨q, n, rfl⟩
  · exact lputs0_calls t f A Af Ap Ar c cf cp cr r w ht hc hbt hG hM
  · have hpl := sumP_len (q ++ [n])
    have hql := sumP_len q
    have hnn : sumP (q ++ [n]) = sumP q + (1 + (n.size : Int)) := by simp [sumP]
    have hqn : (q ++ [n]).length = q.length + 1 := by simp
    have h := lputs_calls t f A Af Ap Ar c cf cp cr q n r w ht hc hbt hf hcf hbf (by omega) hp (by omega) (by omega) hr hcr (by omega) hG hM
    rw [← hqn] at h
    exact h
end
end Go.Proofs.YtdnhjnlhmfajnaaDoor.G
