/- The calls of VfsTexts, plain: with no plan of faults. -/
import Derived.Test.YthlcjjhfkldmhaaDoorVTextW
set_option linter.unusedVariables false
set_option linter.unusedSimpArgs false
section
namespace Go.Proofs.YthlcjjhfkldmhaaDoor.G
open Go.RowKit Go.Lib Go.Proofs.YthlcjjhfkldmhaaDoorW.PrintWords Go.Proofs.YthlcjjhfkldmhaaDoorW.PrintLast
set_option linter.unusedVariables false
set_option linter.unusedSimpArgs false

theorem ins_ins (l : List File) (x y : File) (h : x.name = y.name) : insF (insF l x) y = insF l y := by
  have hlow : lowB (insF l x) y.name = lowB l y.name := by rw [← h, low_ins]
  have hfo : foundB (insF l x) y.name = true := by
    unfold foundB
    rw [hlow, ← h, ins_at]
    simp
  have hle : lowB l y.name ≤ l.length := low_le _ _
  have htl : (l.take (lowB l y.name)).length = lowB l y.name := by rw [List.length_take]; omega
  rw [insF, if_pos hfo, hlow]
  have hs : ∀ r : List File, (l.take (lowB l y.name) ++ x :: r).take (lowB l y.name) ++ y :: (l.take (lowB l y.name) ++ x :: r).drop (lowB l y.name + 1) = l.take (lowB l y.name) ++ y :: r := fun r => by
    rw [List.take_append, List.drop_append, htl]
    simp only [htl, Nat.sub_self, List.take_zero, List.append_nil, Nat.add_sub_cancel_left, List.drop_succ_cons, List.drop_zero]
    rw [List.take_take, Nat.min_self, List.drop_of_length_le (by omega), List.nil_append]
  unfold insF
  rw [h]
  split
  · exact hs _
  · exact hs _
theorem put_spot {t : File} {q : List ByteArray} {s : ByteArray} (h : (putA t q (textF s)).2 = 0) (hold : ∀ x, goP t q = (0, some x) → x.kind = 2) : ∃ q0 n, q = q0 ++ [n] ∧ Spot t (putA t q (textF s)).1 q (nameF (textF s) n) := by
  obtain ⟨q0, n, rfl, h1, h2⟩ := putA_ok h
  obtain ⟨d, hg, hk, ht, hr, hp, hn⟩ := put_ok h1
  refine ⟨q0, n, rfl, ?_⟩
  rw [h2]
  have hu := right_sort hr
  rw [hp] at hu ⊢
  have hgu := go_put q0 t { d with files := insF d.files (nameF (textF s) n) } d hg rfl
  refine ⟨right_sort ht, hu, by simp, rfl, ?_, hold, ?_, ?_⟩
  · rw [go_app q0 [n] _ _ hgu]
    rw [goP_mk (f := { d with files := insF d.files (nameF (textF s) n) }) (n := n) (x := nameF (textF s) n) hk (by
      show (insF d.files (nameF (textF s) n))[lowB (insF d.files (nameF (textF s) n)) (nameF (textF s) n).name]? = _
      rw [low_ins, ins_at]) rfl, go_nil]
  · intro r hr1 hr2
    have hr3 : r <+: q0 := by
      rcases List.prefix_concat_iff.1 hr1 with e | e
      · exact absurd e hr2
      · exact e
    obtain ⟨s', rfl⟩ := hr3
    obtain ⟨h1', e1, e2⟩ := go_way r s' t d hg hk
    obtain ⟨h2', e3, e4⟩ := go_way r s' _ _ hgu hk
    exact ⟨h1', h2', e1, e2, e3, e4⟩
  · intro r hr1 hr2
    exact go_apart q0 t d (nameF (textF s) n) r (right_sort ht) hu hg hr1 hr2
theorem put_again {t : File} {q : List ByteArray} {s e : ByteArray} (h : (putA t q (textF s)).2 = 0) : putA (putA t q (textF s)).1 q (textF e) = putA t q (textF e) := by
  have he := put_data e h
  obtain ⟨q0, n, rfl, h1, h2⟩ := putA_ok h
  obtain ⟨d, hg, hk, ht, hr, hp, hn⟩ := put_ok h1
  rw [h2]
  rw [putA_snoc] at he ⊢
  rw [putA_snoc]
  have hr2 := hr
  rw [hp] at hr2 ⊢
  have hgu := go_put q0 t { d with files := insF d.files (nameF (textF s) n) } d hg rfl
  have hpp := put_put q0 t { d with files := insF d.files (nameF (textF s) n) } { d with files := insF d.files (nameF (textF e) n) } d hg rfl
  unfold putR
  rw [if_pos hr2, hgu, if_pos ht, hg]
  simp only
  rw [ins_ins _ (nameF (textF s) n) (nameF (textF e) n) rfl, hpp]
end Go.Proofs.YthlcjjhfkldmhaaDoor.G
end
section
namespace Go.Proofs.YthlcjjhfkldmhaaDoor.G
open Go.RowKit Go.Lib Go.Proofs.YthlcjjhfkldmhaaDoorW.PrintWords Go.Proofs.YthlcjjhfkldmhaaDoorW.PrintLast
set_option linter.unusedVariables false
set_option linter.unusedSimpArgs false

theorem right_kind {t d x : File} {q : List ByteArray} (h : rightT t = true) (hg : goP t q = (0, some d)) (hx : x ∈ d.files) : x.kind = 1 ∨ x.kind = 2 ∨ x.kind = 3 := by
  obtain ⟨pr, pp, hb⟩ := wrong_go q t.bulk t [] (Nat.le_refl _) (right_wrong h).1 d hg x hx
  have ha : aloneB x = true := by
    unfold badF at hb
    simp only [Bool.or_eq_false_iff, Bool.not_eq_false'] at hb
    exact hb.2
  unfold aloneB at ha
  split at ha
  · rename_i h1
    exact .inl h1
  · split at ha
    · rename_i h2
      exact .inr (.inl h2)
    · split at ha
      · rename_i h3
        exact .inr (.inr h3)
      · cases ha
/-- A text at the end of a walk. -/
structure TextAt (t : File) (p q : List ByteArray) (n : ByteArray) : Prop where
  ok : ∀ s, (putA t q (textF s)).2 = 0
  rt : ∀ s, rightT (putA t q (textF s)).1 = true
  wk : ∀ s, walkR (putA t q (textF s)).1 p true = (q, nameF (textF s) n, true, 0)
  pp : ∀ s e, putA (putA t q (textF s)).1 q (textF e) = putA t q (textF e)
theorem text_at {t : File} {p : List ByteArray} (ht : rightT t = true) (h0 : (walkR t p true).2.2.2 = 0) (hk : ¬ ((walkR t p true).2.2.1 = true ∧ (walkR t p true).2.1.kind = 1)) (hput : (putA t (walkR t p true).1 (textF ⟨#[]⟩)).2 = 0) : ∃ n, TextAt t p (walkR t p true).1 n := by
  have h1 := walk_there t ht p true h0
  have h2 := ((walk_sound t (right_wrong ht).2 p true).2 h0).2
  have hold : ∀ x, goP t (walkR t p true).1 = (0, some x) → x.kind = 2 := by
    intro x hx
    cases hi : (walkR t p true).2.2.1 with
    | false =>
      obtain ⟨_, q0, n, d, hq, hgd, hd, hn⟩ := h1.2 hi
      rw [hq, go_app q0 [n] t d hgd] at hx
      obtain ⟨z, _, hz, _⟩ := go_find (x := d) (go_sort q0 t d 0 (right_sort ht) hgd) hx
      rw [hn] at hz
      cases hz
    | true =>
      have h3 := h1.1 hi
      rw [h3] at hx
      injection hx with _ hx
      injection hx with hx
      subst hx
      have hn1 : (walkR t p true).2.1.kind ≠ 1 := fun e => hk ⟨hi, e⟩
      have hn3 := h2 hi rfl
      obtain ⟨q0, n, hq, hp1, hp2⟩ := putA_ok hput
      obtain ⟨d, hg, hdk, _⟩ := put_ok hp1
      rw [hq, go_app q0 [n] t d hg] at h3
      obtain ⟨z, _, hz, hz2⟩ := go_find (x := d) (go_sort q0 t d 0 (right_sort ht) hg) h3
      rw [go_nil] at hz2
      injection hz2 with _ hz2
      injection hz2 with hz2
      have hm := List.mem_of_find?_eq_some hz
      rw [hz2] at hm
      rcases right_kind ht hg hm with e | e | e
      · exact absurd e hn1
      · exact e
      · exact absurd e hn3
  obtain ⟨q0, n, hq, _⟩ := put_spot hput hold
  refine ⟨n, fun s => put_data s hput, fun s => put_right (put_data s hput), fun s => ?_, fun s e => put_again (put_data s hput)⟩
  obtain ⟨q1, n1, hq1, S⟩ := put_spot (put_data s hput) hold
  have hnn : n1 = n := by
    rw [hq] at hq1
    have := congrArg List.getLast? hq1
    simpa using this.symm
  subst hnn
  exact walk_spot S h0 rfl
theorem create_text {t : File} {x : Req} (ht : rightT t = true) (h : (createR t x).2.2 = 0) : ∃ q n, TextAt t x.p q n ∧ (createR t x).1 = (putA t q (textF ⟨#[]⟩)).1 ∧ q = (walkR t x.p true).1 := by
  unfold createR at h ⊢
  simp only at h ⊢
  split at h
  · rename_i h0
    rw [if_pos h0]
    split at h
    · exact absurd h (by show ¬ (40 : Int) = 0; decide)
    · rename_i hk
      rw [if_neg hk]
      have hput : (putA t (walkR t x.p true).1 (textF ⟨#[]⟩)).2 = 0 := by rw [← putV_zero]; exact h
      obtain ⟨n, T⟩ := text_at ht h0 hk hput
      refine ⟨_, n, T, ?_, rfl⟩
      show (putV t (walkR t x.p true).1 (textF ⟨#[]⟩)).1 = _
      unfold putV
      rw [if_pos hput]
  · rename_i h0
    exact absurd h h0
theorem append_text {t : File} {p q : List ByteArray} {n : ByteArray} (T : TextAt t p q n) (s : ByteArray) (x : Req) (hx : x.p = p) : appendR (putA t q (textF s)).1 x = ((putA t q (textF (s ++ x.data))).1, told0 x.data, 0) := by
  unfold appendR
  simp only
  rw [hx, T.wk s]
  simp only
  rw [if_pos trivial, if_pos trivial, if_neg (by show ¬ (2 : Int) = 1; decide)]
  have h := T.pp s (s ++ x.data)
  have hd : (nameF (textF s) n).data = s := rfl
  unfold putV
  rw [hd, h, if_pos (T.ok _), T.ok]
theorem read_text {t : File} {p q : List ByteArray} {n : ByteArray} (T : TextAt t p q n) (s : ByteArray) (x : Req) (hx : x.p = p) : readV (putA t q (textF s)).1 x = ((putA t q (textF s)).1, told0 s, 0) := by
  unfold readV
  simp only
  rw [hx, T.wk s]
  simp only
  rw [if_pos trivial, if_pos trivial, if_neg (by show ¬ (2 : Int) = 1; decide)]
  rfl
end Go.Proofs.YthlcjjhfkldmhaaDoor.G
end
section
namespace Go.Proofs.YthlcjjhfkldmhaaDoor.G
open Go.RowKit Go.Lib Go.Proofs.YthlcjjhfkldmhaaDoorW.PrintWords Go.Proofs.YthlcjjhfkldmhaaDoorW.PrintLast
set_option linter.unusedVariables false
set_option linter.unusedSimpArgs false

theorem del_none {l : List File} {n : ByteArray} {x : File} (hs : SortedN l) (hx : l[lowB l n]? = some x) (hn : x.name = n) : (delF l n).find? (nameIs n) = none := by
  obtain ⟨hi, hxe⟩ := List.getElem?_eq_some_iff.1 hx
  rw [List.find?_eq_none]
  intro z hz hc
  have hzn : z.name = n := toList_inj.1 (eq_of_beq hc)
  unfold delF at hz
  rcases List.mem_append.1 hz with h | h
  · have h1 := low_less (l := l) (n := n) z h
    rw [hzn, less_irrefl] at h1
    cases h1
  · obtain ⟨j, hj, rfl⟩ := List.mem_iff_getElem.1 h
    rw [List.getElem_drop] at hzn
    rw [List.length_drop] at hj
    have h1 := sorted_lt hs (i := lowB l n) (j := lowB l n + 1 + j) (by omega) (by omega)
    rw [hxe, hn, hzn, less_irrefl] at h1
    cases h1
theorem drop_shape {t y : File} {q0 : List ByteArray} {n : ByteArray} (ht : rightT t = true) (h : (dropA t (q0 ++ [n])).2 = 0) (hy : goP t (q0 ++ [n]) = (0, some y)) :
    ∃ d, goP t q0 = (0, some d) ∧ d.kind = 1 ∧ (dropA t (q0 ++ [n])).1 = putP t q0 { d with files := delF d.files n } ∧ (delF d.files n).find? (nameIs n) = none := by
  rw [dropA_snoc] at h ⊢
  unfold dropR at h ⊢
  rw [if_pos ht, hy] at h ⊢
  simp only at h ⊢
  cases hg : goP t q0 with
  | mk k o =>
    rw [hg] at h
    cases o with
    | none =>
      simp only at h
      exact absurd hg (by rw [h]; exact go_none0)
    | some d =>
      obtain rfl := goP_zero q0 t d k hg
      rw [go_app q0 [n] t d hg] at hy
      obtain ⟨x, h1, h2, h3, h4⟩ := goP_full hy
      have hs := go_sort q0 t d 0 (right_sort ht) hg
      rw [SortF_eq] at hs
      exact ⟨d, rfl, h1, rfl, del_none hs.1 h2 h3⟩
theorem put_at {t f : File} {r : List ByteArray} (h : (putA t r f).2 = 0) : ∃ r0 m, r = r0 ++ [m] ∧ goP (putA t r f).1 r = (0, some (nameF f m)) := by
  obtain ⟨q0, n, rfl, h1, h2⟩ := putA_ok h
  obtain ⟨d, hg, hk, ht, hr, hp, hn⟩ := put_ok h1
  refine ⟨q0, n, rfl, ?_⟩
  rw [h2, hp]
  have hgu := go_put q0 t { d with files := insF d.files (nameF f n) } d hg rfl
  rw [go_app q0 [n] _ _ hgu]
  rw [goP_mk (f := { d with files := insF d.files (nameF f n) }) (n := n) (x := nameF f n) hk (by
    show (insF d.files (nameF f n))[lowB (insF d.files (nameF f n)) (nameF f n).name]? = _
    rw [low_ins, ins_at]) rfl, go_nil]
/-- Behind a rename the old place is empty. -/
theorem gone_walk {u y f : File} {q0 r : List ByteArray} {n : ByteArray} (hu : rightT u = true) (hy : goP u (q0 ++ [n]) = (0, some y)) (hy2 : y.kind ≠ 1) (hd : (dropA u (q0 ++ [n])).2 = 0) (hp : (putA (dropA u (q0 ++ [n])).1 r f).2 = 0) (hne : q0 ++ [n] ≠ r)
    (hr : ∀ x, goP u r = (0, some x) → x.kind ≠ 1) (hl : (q0 ++ [n]).length ≤ 64) : walkR (putA (dropA u (q0 ++ [n])).1 r f).1 (q0 ++ [n]) false = (q0 ++ [n], zeroF, false, 0) := by
  obtain ⟨d, hg, hk, hdr, hdn⟩ := drop_shape hu hd hy
  obtain ⟨r0, m, rfl, hp1, hp2⟩ := putA_ok hp
  obtain ⟨e, hge, hke, htr, hrr, hpp, _⟩ := put_ok hp1
  rw [hp2]
  have hsv := right_sort hrr
  have hsu := right_sort htr
  rw [hpp] at hsv ⊢
  have hg1 : goP (dropA u (q0 ++ [n])).1 q0 = (0, some { d with files := delF d.files n }) := by
    rw [hdr]
    exact go_put q0 u _ d hg rfl
  have hno : ∀ z, goP (dropA u (q0 ++ [n])).1 (q0 ++ [n]) ≠ (0, some z) := fun z hz => by
    have h := (find_go (x := z) hsu hg1 hk).2 hz
    rw [hdn] at h
    cases h
  generalize (dropA u (q0 ++ [n])).1 = u1 at *
  have hgv := go_put r0 u1 { e with files := insF e.files (nameF f m) } e hge rfl
  have hnr : ¬ (r0 ++ [m]) <+: q0 := fun h => by
    obtain ⟨s, hs⟩ := h
    rw [← hs] at hg
    obtain ⟨x, hx1, hx2⟩ := go_way (r0 ++ [m]) s u d hg hk
    exact hr x hx1 hx2
  have hnr2 : ¬ (r0 ++ [m]) <+: (q0 ++ [n]) := fun h => by
    rcases List.prefix_concat_iff.1 h with h | h
    · exact hne h.symm
    · exact hnr h
  have hqr : ¬ (q0 ++ [n]) <+: (r0 ++ [m]) := fun h => by
    rcases List.prefix_concat_iff.1 h with h | h
    · exact hne h
    · obtain ⟨s, hs⟩ := h
      rw [← hs] at hge
      obtain ⟨x, hx1, _⟩ := go_way (q0 ++ [n]) s u1 e hge hke
      exact hno x hx1
  have hgo : goP (putP u1 r0 { e with files := insF e.files (nameF f m) }) (q0 ++ [n]) = goP u1 (q0 ++ [n]) := go_apart r0 u1 e (nameF f m) _ hsu hsv hge hnr2 hqr
  have hfo : ∃ dd, goP (putP u1 r0 { e with files := insF e.files (nameF f m) }) q0 = (0, some dd) ∧ dd.kind = 1 := by
    by_cases hq : q0 <+: r0
    · obtain ⟨s, rfl⟩ := hq
      obtain ⟨dd, h1, h2⟩ := go_way q0 s _ _ hgv hke
      exact ⟨dd, h1, h2⟩
    · have hq2 : ¬ q0 <+: (r0 ++ [m]) := fun h => by
        rcases List.prefix_concat_iff.1 h with h | h
        · exact hnr (h ▸ List.prefix_refl _)
        · exact hq h
      exact ⟨_, (go_apart r0 u1 e (nameF f m) q0 hsu hsv hge hnr hq2).trans hg1, hk⟩
  obtain ⟨dd, hdd, hdk⟩ := hfo
  have hnone : dd.files.find? (nameIs n) = none := by
    cases hf : dd.files.find? (nameIs n) with
    | none => rfl
    | some z =>
      have h := (find_go hsv hdd hdk).1 hf
      rw [hgo] at h
      exact absurd h (hno z)
  unfold walkR
  rw [if_pos hl, walkIn_absent false _ dd n hdk hnone q0 [] _ hsv hdd]
  rfl
/-- A file that is no link is walked to. -/
theorem there_walk {v y : File} {r : List ByteArray} {last : Bool} (hv : rightT v = true) (hg : goP v r = (0, some y)) (hk : y.kind ≠ 3) (hl : r.length ≤ 64) : walkR v r last = (r, y, true, 0) := by
  unfold walkR
  rw [if_pos hl, walkIn_real last _ y (.inl hk) r [] v (right_sort hv) hg]
  rfl
end Go.Proofs.YthlcjjhfkldmhaaDoor.G
end
section
section
namespace Go.Proofs.YthlcjjhfkldmhaaDoor.G
open Go.RowKit Go.Lib Go.Proofs.YthlcjjhfkldmhaaDoorW.PrintWords Go.Proofs.YthlcjjhfkldmhaaDoorW.PrintLast
set_option linter.unusedVariables false
set_option linter.unusedSimpArgs false

theorem text_go {t : File} {p q : List ByteArray} {n : ByteArray} (T : TextAt t p q n) (s : ByteArray) : goP (putA t q (textF s)).1 q = (0, some (nameF (textF s) n)) := by
  have h := walk_there _ (T.rt s) p true (by rw [T.wk s])
  rw [T.wk s] at h
  exact h.1 rfl
theorem text_len {t : File} {p q : List ByteArray} {n : ByteArray} (T : TextAt t p q n) : q.length ≤ 64 := by
  have h := ((walk_sound _ (right_wrong (T.rt ⟨#[]⟩)).2 p true).2 (by rw [T.wk])).1
  rw [T.wk] at h
  exact h
theorem rename_text {t u : File} {p q : List ByteArray} {n s : ByteArray} (T : TextAt t p q n) (hue : (putA t q (textF s)).1 = u) (x : Req) (hx : x.p = q) (h : (renameR u x).2.2 = 0) :
    (walkR u x.dest false).2.2.2 = 0 ∧ rightT (renameR u x).1 = true ∧ (∀ z : Req, z.p = (walkR u x.dest false).1 → readV (renameR u x).1 z = ((renameR u x).1, told0 s, 0)) ∧
    (q = (walkR u x.dest false).1 ∨ ∀ z : Req, z.p = q → lstatR (renameR u x).1 z = ((renameR u x).1, told0 z.data, 31)) := by
  have hu : rightT u = true := hue ▸ T.rt s
  have hgy : goP u q = (0, some (nameF (textF s) n)) := hue ▸ text_go T s
  have hlq := text_len T
  obtain ⟨q0, n', hq, _⟩ := putA_ok (T.ok s)
  have hw := there_walk (last := false) hu hgy (by show ¬ (2 : Int) = 3; decide) hlq
  have hth := walk_there u hu x.dest false
  have hso := walk_sound u (right_wrong hu).2 x.dest false
  have hread : ∀ (v y : File) (r : List ByteArray) (z : Req), rightT v = true → goP v r = (0, some y) → y.kind = 2 → y.data = s → r.length ≤ 64 → z.p = r → readV v z = (v, told0 s, 0) := fun v y r z hv hg hk hd hl hz => by
    unfold readV
    simp only
    rw [hz, there_walk (last := true) hv hg (by omega) hl]
    simp only
    rw [if_pos trivial, if_pos trivial, if_neg (by omega), hd]
  unfold renameR at h ⊢
  simp only at h ⊢
  rw [hx, hw] at h ⊢
  simp only at h ⊢
  rw [if_pos trivial, if_pos trivial, if_neg (by show ¬ (2 : Int) = 1; decide)] at h ⊢
  obtain ⟨⟨r, zf, iz, k⟩, hr⟩ : ∃ r, walkR u x.dest false = r := ⟨_, rfl⟩
  rw [hr] at h hth hso ⊢
  simp only at h hth hso ⊢
  split at h
  · rename_i hk
    subst hk
    rw [if_pos rfl]
    split at h
    · exact absurd h (by show ¬ (40 : Int) = 0; decide)
    · rename_i hz
      rw [if_neg hz]
      have hrl : r.length ≤ 64 := (hso.2 rfl).1
      split at h
      · rename_i hqr
        rw [if_pos hqr]
        exact ⟨rfl, hu, fun z hzp => hread u _ r z hu (hqr ▸ hgy) rfl rfl hrl hzp, .inl hqr⟩
      · rename_i hqr
        rw [if_neg hqr]
        split at h
        · rename_i hd
          rw [if_pos hd]
          split at h
          · rename_i hp
            rw [if_pos hp]
            obtain ⟨r0, m, hrm, hgv⟩ := put_at hp
            have hv := put_right hp
            refine ⟨rfl, hv, fun z hzp => hread _ _ r z hv hgv rfl rfl hrl hzp, .inr fun z hzp => ?_⟩
            have hr1 : ∀ x, goP u r = (0, some x) → x.kind ≠ 1 := fun x hx => by
              have hth2 := hth rfl
              cases iz with
              | true =>
                have h2 := hth2.1 rfl
                rw [h2] at hx
                injection hx with _ hx
                injection hx with hx
                rw [← hx]
                exact fun e => hz ⟨rfl, e⟩
              | false =>
                obtain ⟨_, q1, n1, d, hq1, hgd, hd1, hn1⟩ := hth2.2 rfl
                rw [show r = q1 ++ [n1] from hq1, go_app q1 [n1] u d hgd] at hx
                obtain ⟨z2, _, hz2, _⟩ := go_find (x := d) (go_sort q1 u d 0 (right_sort hu) hgd) hx
                rw [hn1] at hz2
                cases hz2
            subst hq
            have hg2 := gone_walk hu hgy (by show ¬ (2 : Int) = 1; decide) hd hp hqr hr1 hlq
            unfold lstatR
            simp only
            rw [hzp, hg2]
            rfl
          · rename_i hp
            exact absurd h hp
        · rename_i hd
          exact absurd h hd
  · rename_i hk
    exact absurd h hk
end Go.Proofs.YthlcjjhfkldmhaaDoor.G
end
section
namespace Go.Proofs.YthlcjjhfkldmhaaDoor.G
open Go.RowKit Go.Lib Go.Proofs.YthlcjjhfkldmhaaDoorW.PrintWords Go.Proofs.YthlcjjhfkldmhaaDoorW.PrintLast
set_option linter.unusedVariables false
set_option linter.unusedSimpArgs false

/-- A call with no plan: the paths are not right, or the operation is done. -/
theorem call_plain (f : FsV) (hf : f.faults = []) (k : Int) (x : Req) :
    (¬ (P.rightB x.p = true ∧ P.rightB x.dest = true) ∧ callV f k x = (f, told0 x.data, 20)) ∨
    ((P.rightB x.p = true ∧ P.rightB x.dest = true) ∧ callV f k x = (⟨(opR k f.tree x).1, f.trace ++ [⟨k, x.p, if k = 5 then x.dest else [], (opR k f.tree x).2.2⟩], []⟩, (opR k f.tree x).2.1, (opR k f.tree x).2.2)) := by
  unfold callV
  by_cases h : P.rightB x.p = true ∧ P.rightB x.dest = true
  · refine .inr ⟨h, ?_⟩
    rw [if_pos h, hf]
    simp
  · exact .inl ⟨h, by rw [if_neg h]⟩
/-- The same call on, the paths right. -/
theorem call_done (f : FsV) (hf : f.faults = []) (k : Int) (x : Req) (h : P.rightB x.p = true ∧ P.rightB x.dest = true) (u : File) (a : Told) (y : Int) (ho : opR k f.tree x = (u, a, y)) :
    callV f k x = (⟨u, f.trace ++ [⟨k, x.p, if k = 5 then x.dest else [], y⟩], []⟩, a, y) := by
  rcases call_plain f hf k x with ⟨h1, _⟩ | ⟨_, h2⟩
  · exact absurd h h1
  · rw [h2, ho]
/-- Create, and what it leaves. -/
theorem create_call (t : File) (ht : rightT t = true) (p : List ByteArray) (h : (callV ⟨t, [], []⟩ 3 ⟨p, [], ⟨#[]⟩⟩).2.2 = 0) :
    (P.rightB p = true ∧ P.rightB [] = true) ∧ ∃ q n, TextAt t p q n ∧ (callV ⟨t, [], []⟩ 3 ⟨p, [], ⟨#[]⟩⟩).1.tree = (putA t q (textF ⟨#[]⟩)).1 ∧ (callV ⟨t, [], []⟩ 3 ⟨p, [], ⟨#[]⟩⟩).1.faults = [] ∧ (callV ⟨t, [], []⟩ 3 ⟨p, [], ⟨#[]⟩⟩).1.trace.length = 1 ∧ q = (walkR t p true).1 := by
  rcases call_plain ⟨t, [], []⟩ rfl 3 ⟨p, [], ⟨#[]⟩⟩ with ⟨_, h2⟩ | ⟨h1, h2⟩
  · rw [h2] at h
    exact absurd h (by show ¬ (20 : Int) = 0; decide)
  · refine ⟨h1, ?_⟩
    rw [h2] at h ⊢
    obtain ⟨q, n, T, h3, h4⟩ := create_text (x := ⟨p, [], ⟨#[]⟩⟩) ht h
    exact ⟨q, n, T, h3, rfl, rfl, h4⟩
theorem append_call {t : File} {p q : List ByteArray} {n : ByteArray} (T : TextAt t p q n) (hp : P.rightB p = true ∧ P.rightB [] = true) (f : FsV) (hf : f.faults = []) (s d : ByteArray) (hs : f.tree = (putA t q (textF s)).1) :
    callV f 4 ⟨p, [], d⟩ = (⟨(putA t q (textF (s ++ d))).1, f.trace ++ [⟨4, p, [], 0⟩], []⟩, told0 d, 0) :=
  call_done f hf 4 ⟨p, [], d⟩ hp _ _ _ (by rw [hs]; exact append_text T s ⟨p, [], d⟩ rfl)
theorem read_call {t : File} {p q : List ByteArray} {n : ByteArray} (T : TextAt t p q n) (hp : P.rightB p = true ∧ P.rightB [] = true) (f : FsV) (hf : f.faults = []) (s : ByteArray) (hs : f.tree = (putA t q (textF s)).1) :
    callV f 2 ⟨p, [], ⟨#[]⟩⟩ = (⟨f.tree, f.trace ++ [⟨2, p, [], 0⟩], []⟩, told0 s, 0) :=
  call_done f hf 2 ⟨p, [], ⟨#[]⟩⟩ hp _ _ _ (by rw [hs]; exact read_text T s ⟨p, [], ⟨#[]⟩⟩ rfl)
/-- The real path of the text. -/
theorem text_real {t : File} {p q : List ByteArray} {n : ByteArray} (T : TextAt t p q n) (hp : P.rightB p = true) (s : ByteArray) : realR (putA t q (textF s)).1 p true = (q, 0) := by
  unfold realR
  rw [if_pos (T.rt s), if_pos hp, T.wk s]
/-- Rename, and what it leaves: read at the new place, gone at the old. -/
theorem rename_call {t : File} {p q to_ : List ByteArray} {n : ByteArray} (T : TextAt t p q n) (f : FsV) (hf : f.faults = []) (s : ByteArray) (hs : f.tree = (putA t q (textF s)).1) (h : (callV f 5 ⟨q, to_, ⟨#[]⟩⟩).2.2 = 0) (hn : P.rightB [] = true) :
    ∃ v r, rightT v = true ∧ (callV f 5 ⟨q, to_, ⟨#[]⟩⟩).1 = ⟨v, f.trace ++ [⟨5, q, to_, 0⟩], []⟩ ∧ realR f.tree to_ false = (r, 0) ∧
      (∀ g : FsV, g.tree = v → g.faults = [] → P.rightB r = true → callV g 2 ⟨r, [], ⟨#[]⟩⟩ = (⟨v, g.trace ++ [⟨2, r, [], 0⟩], []⟩, told0 s, 0)) ∧
      (q = r ∨ ∀ g : FsV, g.tree = v → g.faults = [] → callV g 1 ⟨q, [], ⟨#[]⟩⟩ = (⟨v, g.trace ++ [⟨1, q, [], 31⟩], []⟩, told0 ⟨#[]⟩, 31)) := by
  rcases call_plain f hf 5 ⟨q, to_, ⟨#[]⟩⟩ with ⟨_, h2⟩ | ⟨h1, h2⟩
  · rw [h2] at h
    exact absurd h (by show ¬ (20 : Int) = 0; decide)
  · rw [h2] at h ⊢
    have hop : opR 5 f.tree ⟨q, to_, ⟨#[]⟩⟩ = renameR f.tree ⟨q, to_, ⟨#[]⟩⟩ := rfl
    rw [hop] at h ⊢
    simp only at h
    obtain ⟨e1, e2, e3, e4⟩ := rename_text T hs.symm ⟨q, to_, ⟨#[]⟩⟩ rfl h
    refine ⟨_, (walkR f.tree to_ false).1, e2, by rw [h]; rfl, ?_, ?_, ?_⟩
    · unfold realR
      rw [if_pos (hs ▸ T.rt s), if_pos h1.2, e1]
    · intro g hg hgf hr
      exact call_done g hgf 2 ⟨_, [], ⟨#[]⟩⟩ ⟨hr, hn⟩ _ _ _ (by rw [hg]; exact e3 ⟨_, [], ⟨#[]⟩⟩ rfl)
    · rcases e4 with e4 | e4
      · exact .inl e4
      · exact .inr fun g hg hgf => call_done g hgf 1 ⟨q, [], ⟨#[]⟩⟩ ⟨h1.1, hn⟩ _ _ _ (by rw [hg]; exact e4 ⟨q, [], ⟨#[]⟩⟩ rfl)
end Go.Proofs.YthlcjjhfkldmhaaDoor.G
end
end
