/- What is written is read as it was; what is read is right: plain; no program in sight but for the types. -/
import Derived.Test.YtdnhjnlhmfajnaaDoorTBack1
import Derived.Test.YtdnhjnlhmfajnaaDoorTReadA
namespace Go.Proofs.YtdnhjnlhmfajnaaDoor.G
open Go.RowKit Go.Lib Go.Proofs.YtdnhjnlhmfajnaaDoorW.PrintWords Go.Proofs.YtdnhjnlhmfajnaaDoorW.PrintLast
set_option linter.unusedVariables false

/-- A file that is right where it stands (q: its path), but for the order of names. -/
def OkY (y : List ByteArray × File) : Prop := nameB y.2.name.data.toList = true ∧ y.1.length ≤ 64 ∧ aloneB y.2 = true
theorem wrongL_all (rec : File → List ByteArray → Option (List ByteArray)) (p : List ByteArray) : ∀ (l : List File) (prev : Option ByteArray), wrongL rec p prev l = none → ∀ x ∈ l, OkY (p ++ [x.name], x) ∧ rec x (p ++ [x.name]) = none
  | [], prev, _ => fun x hx => (by cases hx)
  | x :: l, prev, h => by
    rw [wrongL] at h
    by_cases hb : badF prev (p ++ [x.name]) x = true
    · rw [if_pos hb] at h
      cases h
    · rw [if_neg hb] at h
      cases hr : rec x (p ++ [x.name]) with
      | some b => rw [hr] at h; cases h
      | none =>
        rw [hr] at h
        have ih := wrongL_all rec p l (some x.name) h
        intro z hz
        rcases List.mem_cons.1 hz with rfl | hz
        · refine ⟨?_, hr⟩
          unfold badF at hb
          simp only [Bool.not_eq_true, Bool.or_eq_false_iff, Bool.not_eq_false', decide_eq_false_iff_not] at hb
          exact ⟨hb.1.1.1, by simpa using hb.1.2, hb.2⟩
        · exact ih z hz
theorem wrongN_all : ∀ (n : Nat) (f : File) (p : List ByteArray), f.bulk ≤ n → wrongN n f p = none → ∀ y ∈ preF p f, OkY y
  | 0, f, p, h, _ => by have := bulk_eq f; omega
  | n + 1, f, p, h, hw => by
    intro y hy
    obtain ⟨x, hx, hyx⟩ := preF_mem.1 hy
    obtain ⟨h1, h2⟩ := wrongL_all (wrongN n) p f.files none hw x hx
    rcases hyx with rfl | hyx
    · exact h1
    · exact wrongN_all n x _ (by have := bulk_child hx; omega) h2 y hyx
theorem wrongL_ok (rec : File → List ByteArray → Option (List ByteArray)) (p : List ByteArray) : ∀ (l : List File) (prev : Option ByteArray), (∀ y, prev = some y → ∀ x ∈ l, lessB y x.name = true) → SortedN l → (∀ x ∈ l, OkY (p ++ [x.name], x) ∧ rec x (p ++ [x.name]) = none) → wrongL rec p prev l = none
  | [], prev, _, _, _ => rfl
  | x :: l, prev, h1, h2, h3 => by
    obtain ⟨⟨a1, a2, a3⟩, a4⟩ := h3 x List.mem_cons_self
    have h2' := List.pairwise_cons.1 h2
    have hb : badF prev (p ++ [x.name]) x = false := by
      unfold badF
      simp only [Bool.or_eq_false_iff, Bool.not_eq_false', decide_eq_false_iff_not]
      refine ⟨⟨⟨a1, ?_⟩, by simp only at a2; omega⟩, a3⟩
      cases prev with
      | none => rfl
      | some y =>
        have := h1 y rfl x List.mem_cons_self
        simp only [prevGe, geB]
        rw [show Op.bytesLess y.toList x.name.toList = true from this]
        rfl
    rw [wrongL, if_neg (by rw [hb]; simp), a4]
    exact wrongL_ok rec p l (some x.name) (fun y hy z hz => by injection hy with hy; subst hy; exact h2'.1 z hz) h2'.2 fun z hz => h3 z (List.mem_cons_of_mem _ hz)
theorem wrongN_ok : ∀ (n : Nat) (f : File) (p : List ByteArray), SortF f → (∀ y ∈ preF p f, OkY y) → wrongN n f p = none
  | 0, f, p, _, _ => rfl
  | n + 1, f, p, hs, h => by
    rw [SortF_eq] at hs
    refine wrongL_ok (wrongN n) p f.files none (fun _ h => by cases h) hs.1 fun x hx => ⟨h _ (preF_child hx), wrongN_ok n x _ (SortL_mem.1 hs.2 x hx) fun y hy => h y (preF_mem.2 ⟨x, hx, .inr hy⟩)⟩
theorem empty_of {x : ByteArray} (h : x.toList.isEmpty = true) : x = ⟨#[]⟩ := by
  rw [Lib.toList_data] at h
  apply ByteArray.ext
  apply Array.toList_inj.1
  exact List.isEmpty_iff.1 h
theorem right_iff (f : File) : rightT f = true ↔ f.kind = 1 ∧ f.name = ⟨#[]⟩ ∧ f.data = ⟨#[]⟩ ∧ SortF f ∧ ∀ y ∈ preF [] f, OkY y := by
  have he : (⟨#[]⟩ : ByteArray).toList.isEmpty = true := by rw [Lib.toList_data]; rfl
  constructor
  · intro h
    have hs := right_sort h
    have h1 : (checkR f).1 = 0 := by simpa [rightT] using h
    unfold checkR at h1
    by_cases hc : f.kind = 1 ∧ f.name.toList.isEmpty = true ∧ f.data.toList.isEmpty = true
    · rw [if_pos hc] at h1
      cases hw : wrongN f.bulk f [] with
      | none => exact ⟨hc.1, empty_of hc.2.1, empty_of hc.2.2, hs, wrongN_all _ _ _ (Nat.le_refl _) hw⟩
      | some b => rw [hw] at h1; simp [checkO] at h1
    · rw [if_neg hc] at h1
      simp at h1
  · rintro ⟨h1, h2, h3, h4, h5⟩
    unfold rightT checkR
    rw [h1, h2, h3, if_pos ⟨rfl, he, he⟩, wrongN_ok _ _ _ h4 h5]
    rfl

/-! ### Reading builds the tree -/
theorem low_name {l l' : List File} (n : ByteArray) (h : l.map File.name = l'.map File.name) : lowB l n = lowB l' n := by
  have hh : ∀ l : List File, lowB l n = ((l.map File.name).takeWhile fun x => lessB x n).length := by
    intro l
    unfold lowB
    induction l with
    | nil => rfl
    | cons x l ih =>
      simp only [List.map_cons, List.takeWhile_cons]
      split
      · simp only [List.length_cons, ih]
      · rfl
  rw [hh, hh, h]
theorem set_names {l : List File} {i : Nat} {x x' : File} (hx : l[i]? = some x) (hn : x'.name = x.name) : (l.set i x').map File.name = l.map File.name := by
  apply List.ext_getElem?
  intro j
  rw [List.getElem?_map, List.getElem?_map, List.getElem?_set]
  split
  · rename_i h
    subst h
    rw [if_pos (List.getElem?_eq_some_iff.1 hx).1, hx]
    simp [hn]
  · rfl
theorem file_eta (f : File) : (⟨f.name, f.kind, f.data, f.files⟩ : File) = f := by cases f; rfl
theorem goP_full {f : File} {n : ByteArray} {q : List ByteArray} {d : File} {k : Int} (h : goP f (n :: q) = (k, some d)) : ∃ x, f.kind = 1 ∧ f.files[lowB f.files n]? = some x ∧ x.name = n ∧ goP x q = (k, some d) := by
  rw [goP] at h
  split at h
  · rename_i hk
    split at h
    · rename_i x hx
      split at h
      · rename_i he
        exact ⟨x, hk, hx, toList_inj.1 (eq_of_beq he), h⟩
      · cases h
    · cases h
  · cases h
theorem goP_mk {f : File} {n : ByteArray} {q : List ByteArray} {x : File} (hk : f.kind = 1) (hx : f.files[lowB f.files n]? = some x) (hn : x.name = n) : goP f (n :: q) = goP x q := by
  rw [goP, if_pos hk, hx]
  simp only
  rw [if_pos (by rw [hn]; simp)]
theorem goP_zero : ∀ (q : List ByteArray) (f d : File) (k : Int), goP f q = (k, some d) → k = 0
  | [], f, d, k, h => by rw [goP] at h; injection h with h _; exact h.symm
  | n :: q, f, d, k, h => by
    obtain ⟨x, _, _, _, hg⟩ := goP_full h
    exact goP_zero q x d k hg
theorem go_put : ∀ (q : List ByteArray) (f y d : File), goP f q = (0, some d) → y.name = d.name → goP (putP f q y) q = (0, some y)
  | [], f, y, d, h, hn => by rw [putP, goP]
  | n :: q, f, y, d, h, hn => by
    obtain ⟨x, hk, hx, hxn, hg⟩ := goP_full h
    have ih := go_put q x y d hg hn
    have hpn := putP_name q x y d 0 hg hn
    have hl : lowB (f.files.set (lowB f.files n) (putP x q y)) n = lowB f.files n := low_name n (set_names hx hpn)
    have hlt := (List.getElem?_eq_some_iff.1 hx).1
    rw [putP, hx]
    show goP { f with files := f.files.set (lowB f.files n) (putP x q y) } (n :: q) = _
    exact (goP_mk (f := { f with files := f.files.set (lowB f.files n) (putP x q y) }) (x := putP x q y) hk (by show (f.files.set (lowB f.files n) (putP x q y))[lowB (f.files.set (lowB f.files n) (putP x q y)) n]? = _; rw [hl, List.getElem?_set_self hlt]) (hpn.trans hxn)).trans ih
theorem put_put : ∀ (q : List ByteArray) (f y z d : File), goP f q = (0, some d) → y.name = d.name → putP (putP f q y) q z = putP f q z
  | [], f, y, z, d, h, hn => by simp only [putP]
  | n :: q, f, y, z, d, h, hn => by
    obtain ⟨x, hk, hx, hxn, hg⟩ := goP_full h
    have ih := put_put q x y z d hg hn
    have hpn := putP_name q x y d 0 hg hn
    have hl : lowB (f.files.set (lowB f.files n) (putP x q y)) n = lowB f.files n := low_name n (set_names hx hpn)
    have hlt := (List.getElem?_eq_some_iff.1 hx).1
    have e1 : putP f (n :: q) y = { f with files := f.files.set (lowB f.files n) (putP x q y) } := by rw [putP, hx]
    have e2 : putP f (n :: q) z = { f with files := f.files.set (lowB f.files n) (putP x q z) } := by rw [putP, hx]
    rw [e1, e2, putP]
    simp only
    rw [hl, List.getElem?_set_self hlt]
    simp only
    rw [ih, List.set_set]
theorem put_self : ∀ (q : List ByteArray) (f d : File), goP f q = (0, some d) → putP f q d = f
  | [], f, d, h => by
    rw [goP] at h
    injection h with _ h
    injection h with h
    rw [putP, h]
  | n :: q, f, d, h => by
    obtain ⟨x, hk, hx, hxn, hg⟩ := goP_full h
    rw [putP, hx]
    simp only
    rw [put_self q x d hg]
    obtain ⟨hlt, he⟩ := List.getElem?_eq_some_iff.1 hx
    have : f.files.set (lowB f.files n) x = f.files := by
      apply List.ext_getElem?
      intro j
      rw [List.getElem?_set]
      split
      · rename_i h
        rw [← h, hx]
      · rfl
    rw [this, file_eta]
theorem go_snoc : ∀ (q : List ByteArray) (n : ByteArray) (f d x : File), goP f q = (0, some d) → d.kind = 1 → d.files[lowB d.files n]? = some x → x.name = n → goP f (q ++ [n]) = (0, some x)
  | [], n, f, d, x, h, hk, hx, hn => by
    rw [goP] at h
    injection h with _ h
    injection h with h
    subst h
    rw [List.nil_append, goP_mk hk hx hn, goP]
  | m :: q, n, f, d, x, h, hk, hx, hn => by
    obtain ⟨z, hk2, hz, hzn, hg⟩ := goP_full h
    rw [List.cons_append, goP_mk hk2 hz hzn]
    exact go_snoc q n z d x hg hk hx hn
theorem put_snoc : ∀ (q : List ByteArray) (n : ByteArray) (f d x y : File), goP f q = (0, some d) → d.files[lowB d.files n]? = some x → putP f (q ++ [n]) y = putP f q { d with files := d.files.set (lowB d.files n) y }
  | [], n, f, d, x, y, h, hx => by
    rw [goP] at h
    injection h with _ h
    injection h with h
    subst h
    rw [List.nil_append, putP, putP, hx]
    simp only [putP]
  | m :: q, n, f, d, x, y, h, hx => by
    obtain ⟨z, hk2, hz, hzn, hg⟩ := goP_full h
    rw [List.cons_append, putP, putP, hz]
    simp only
    rw [put_snoc q n z d x y hg hx]
theorem low_last {l : List File} {x : File} (h : ∀ y ∈ l, lessB y.name x.name = true) : lowB (l ++ [x]) x.name = l.length := by
  refine low_of x.name (l ++ [x]) l.length (by simp) (fun k hk hkl => ?_) (fun hl => ?_)
  · rw [List.getElem_append_left hkl]
    exact h _ (List.getElem_mem hkl)
  · simp [less_irrefl]
theorem cmp_pre : ∀ (q a b : List ByteArray), cmpP (q ++ a) (q ++ b) = cmpP a b
  | [], a, b => rfl
  | x :: q, a, b => by simp only [List.cons_append, cmpP, if_true]; exact cmp_pre q a b
theorem cmp_less {x y : ByteArray} (h : lessB x y = true) (r : List ByteArray) : cmpP (x :: r) [y] < 0 := by
  unfold cmpP
  have hne : x ≠ y := fun e => by rw [e, less_irrefl] at h; cases h
  rw [if_neg hne]
  exact less_cb.1 h
/-- What a printed file's line does to a tree. -/
theorem line_adds {T d x : File} {last p : List ByteArray} (hg : goP T p = (0, some d)) (hk : d.kind = 1) (hx : OkY (p ++ [x.name], x)) (hkx : kindOk x.kind) (hdx : x.kind = 1 → x.data = ⟨#[]⟩) (hnm : ∀ n ∈ p, nameB n.data.toList = true) (hc : ¬ (last ≠ [] ∧ 0 ≤ cmpP last (p ++ [x.name]))) :
    lineR T last ⟨(lineT (p ++ [x.name], x)).toArray⟩ = (0, putP T p (pushF d { x with files := [] }), p ++ [x.name]) := by
  have hr := read_line (y := (p ++ [x.name], x)) hkx hdx
  have hs := split_shown (q := p ++ [x.name]) (by simp) (fun n hn => by
    rcases List.mem_append.1 hn with hn | hn
    · exact hnm n hn
    · rw [List.mem_singleton.1 hn]; exact hx.1) hx.2.1
  have hdl : (p ++ [x.name]).dropLast = p := by simp
  have hd : dirO T (p ++ [x.name]) = some d := by
    unfold dirO
    rw [if_neg (by simp), hdl, hg]
    simp only
    rw [if_pos hk]
  have hk6 : ¬ (x.kind = 3 ∧ targetB x.data = false) := by
    rintro ⟨h3, ht⟩
    have := hx.2.2
    unfold aloneB at this
    simp only at this
    rw [h3] at this
    simp [ht] at this
  have := line_0 (t := T) (last := last) (d := d) hr rfl hs hc hd hk6
  rw [this]
  simp only [addP, hdl, newF, List.getLastD_eq_getLast?]
  simp
def recs (l : List (List ByteArray × File)) : List (ByteArray × Bool) := l.map fun y => (⟨(lineT y).toArray⟩, true)
theorem recs_app (a b : List (List ByteArray × File)) : recs (a ++ b) = recs a ++ recs b := List.map_append ..
/-- Reading the files below a folder fills the folder. -/
theorem fills : ∀ (N : Nat) (f : File) (p : List ByteArray) (T : File) (ls : List (ByteArray × Bool)) (i : Nat), f.bulk ≤ N → SortF f → (∀ y ∈ preF p f, OkY y) → (f.kind = 1 ∨ f.files = []) → (∀ n ∈ p, nameB n.data.toList = true) → goP T p = (0, some { f with files := [] }) →
    ∃ r, readAll (recs (preF p f) ++ ls) i T p = readAll ls (i + (preF p f).length) (putP T p f) (p ++ r)
  | 0, f, p, T, ls, i, h, _, _, _, _, _ => by have := bulk_eq f; omega
  | N + 1, f, p, T, ls, i, hN, hs, hok, hkf, hnm, hg => by
    rcases hkf with hk | hk
    · rw [preF_eq] at hok ⊢
      rw [SortF_eq] at hs
      -- the children one after the other
      have key : ∀ (l done : List File) (ls : List (ByteArray × Bool)) (i : Nat) (r0 : List ByteArray), done ++ l = f.files → (done = [] ∧ r0 = [] ∨ ∃ x ∈ done, (∀ z ∈ l, lessB x.name z.name = true) ∧ ∃ r', r0 = x.name :: r') →
          ∃ r, readAll (recs (preL p l) ++ ls) i (putP T p { f with files := done }) (p ++ r0) = readAll ls (i + (preL p l).length) (putP T p { f with files := done ++ l }) (p ++ r) := by
        intro l
        induction l with
        | nil =>
          intro done ls i r0 hl hr0
          refine ⟨r0, ?_⟩
          simp only [preL, recs, List.map_nil, List.nil_append, List.length_nil, Nat.add_zero, List.append_nil]
        | cons x l ih =>
          intro done ls i r0 hl hr0
          have hmem : x ∈ f.files := by rw [← hl]; simp
          have hT : goP (putP T p { f with files := done }) p = (0, some { f with files := done }) := go_put p T _ _ hg rfl
          have hox : OkY (p ++ [x.name], x) := hok _ (by rw [← hl, preL_append]; simp [preL])
          have hoxs : ∀ y ∈ preF (p ++ [x.name]) x, OkY y := fun y hy => hok y (by rw [← hl, preL_append]; simp [preL, hy])
          have ha := hox.2.2
          have hkx : kindOk x.kind := by
            unfold aloneB at ha
            simp only at ha
            split at ha
            · exact .inl ‹_›
            · split at ha
              · exact .inr (.inl ‹_›)
              · split at ha
                · exact .inr (.inr ‹_›)
                · cases ha
          have hdx : x.kind = 1 → x.data = ⟨#[]⟩ := fun h => by
            unfold aloneB at ha
            simp only at ha
            rw [if_pos h] at ha
            exact empty_of ha
          have hfx : x.kind = 1 ∨ x.files = [] := by
            rcases hkx with h | h | h
            · exact .inl h
            · right
              unfold aloneB at ha
              simp only at ha
              rw [if_neg (by omega), if_pos h] at ha
              exact List.eq_nil_of_length_eq_zero (of_decide_eq_true ha)
            · right
              unfold aloneB at ha
              simp only at ha
              rw [if_neg (by omega), if_neg (by omega), if_pos h, Bool.and_eq_true] at ha
              exact List.eq_nil_of_length_eq_zero (of_decide_eq_true ha.1)
          have hsrt : ∀ y ∈ done, lessB y.name x.name = true := by
            have h1 := hs.1
            rw [← hl] at h1
            unfold SortedN at h1
            rw [List.pairwise_append] at h1
            exact fun y hy => h1.2.2 y hy x List.mem_cons_self
          have hsrt2 : ∀ z ∈ l, lessB x.name z.name = true := by
            have h1 := hs.1
            rw [← hl] at h1
            unfold SortedN at h1
            rw [List.pairwise_append] at h1
            exact (List.pairwise_cons.1 h1.2.1).1
          have hcm : ¬ ((p ++ r0) ≠ [] ∧ 0 ≤ cmpP (p ++ r0) (p ++ [x.name])) := by
            rintro ⟨h1, h2⟩
            rw [cmp_pre] at h2
            rcases hr0 with ⟨_, rfl⟩ | ⟨y, hy, hyl, r', rfl⟩
            · simp [cmpP] at h2
            · have := cmp_less (hyl x List.mem_cons_self) r'
              omega
          have hline := line_adds hT hk hox hkx hdx hnm hcm
          have hpush : pushF { f with files := done } { x with files := [] } = { f with files := done ++ [{ x with files := [] }] } := rfl
          rw [hpush, put_put p T { f with files := done } _ _ hg rfl] at hline
          obtain ⟨T1, hT1⟩ : ∃ T1, putP T p { f with files := done ++ [{ x with files := [] }] } = T1 := ⟨_, rfl⟩
          rw [hT1] at hline
          have hg1 : goP T1 p = (0, some { f with files := done ++ [{ x with files := [] }] }) := by rw [← hT1]; exact go_put p T _ _ hg rfl
          have hlow : lowB (done ++ [{ x with files := [] }]) x.name = done.length := low_last (x := { x with files := [] }) hsrt
          have hat : (done ++ [{ x with files := [] }])[lowB (done ++ [{ x with files := [] }]) x.name]? = some { x with files := [] } := by rw [hlow]; simp
          have hg2 : goP T1 (p ++ [x.name]) = (0, some { x with files := [] }) := go_snoc p x.name T1 _ _ hg1 hk hat rfl
          obtain ⟨r1, h1⟩ := fills N x (p ++ [x.name]) T1 (recs (preL p l) ++ ls) (i + 1) (by have := bulk_child hmem; omega) (SortL_mem.1 hs.2 x hmem) hoxs hfx (fun n hn => by
            rcases List.mem_append.1 hn with hn | hn
            · exact hnm n hn
            · rw [List.mem_singleton.1 hn]; exact hox.1) hg2
          have hp2 : putP T1 (p ++ [x.name]) x = putP T p { f with files := done ++ [x] } := by
            rw [put_snoc p x.name T1 _ _ x hg1 hat, ← hT1, put_put p T { f with files := done ++ [{ x with files := [] }] } _ _ hg rfl]
            simp only
            rw [hlow]
            simp [List.set_append]
          rw [hp2] at h1
          obtain ⟨r2, h2⟩ := ih (done ++ [x]) ls (i + 1 + (preF (p ++ [x.name]) x).length) (x.name :: r1) (by rw [← hl]; simp) (.inr ⟨x, by simp, hsrt2, r1, rfl⟩)
          refine ⟨r2, ?_⟩
          have e1 : recs (preL p (x :: l)) ++ ls = (⟨(lineT (p ++ [x.name], x)).toArray⟩, true) :: (recs (preF (p ++ [x.name]) x) ++ (recs (preL p l) ++ ls)) := by
            simp [preL, recs]
          rw [e1, readAll]
          simp only
          rw [line_skip (y := (p ++ [x.name], x)) hkx, if_neg (by simp), hline, if_pos rfl]
          simp only
          rw [h1, List.append_assoc, List.singleton_append, h2]
          simp only [preL, List.length_cons, List.length_append, List.append_assoc, List.singleton_append]
          congr 1
          omega
      obtain ⟨r, hr⟩ := key f.files [] ls i [] rfl (.inl ⟨rfl, rfl⟩)
      rw [put_self p T _ hg] at hr
      simp only [List.nil_append, List.append_nil] at hr
      rw [file_eta] at hr
      exact ⟨r, hr⟩
    · have hp : preF p f = [] := by rw [preF_eq, hk]; rfl
      refine ⟨[], ?_⟩
      rw [hp]
      have hf : ({ f with files := [] } : File) = f := by rw [← hk]; exact file_eta f
      rw [hf] at hg
      rw [put_self p T f hg]
      simp [recs]
theorem read_back {t : File} (h : rightT t = true) : treeR ⟨(printL (preF [] t)).toArray⟩ = (t, 0, 0, 0) := by
  obtain ⟨h1, h2, h3, h4, h5⟩ := (right_iff t).1 h
  have hk : ∀ y ∈ preF [] t, kindOk y.2.kind := fun y hy => by
    have ha := (h5 y hy).2.2
    unfold aloneB at ha
    split at ha
    · exact .inl ‹_›
    · split at ha
      · exact .inr (.inl ‹_›)
      · split at ha
        · exact .inr (.inr ‹_›)
        · cases ha
  unfold treeR
  rw [show (⟨(printL (preF [] t)).toArray⟩ : ByteArray).data.toList = printL (preF [] t) from rfl, lines_printed _ hk]
  have hroot : rootF = { t with files := [] } := by
    obtain ⟨n, k, d, l⟩ := t
    simp only at h1 h2 h3
    subst h1
    subst h2
    subst h3
    rfl
  obtain ⟨r, hr⟩ := fills t.bulk t [] rootF [] 0 (Nat.le_refl _) h4 h5 (.inl h1) (fun _ h => by cases h) (by rw [goP, hroot])
  rw [List.append_nil] at hr
  rw [show (preF [] t).map (fun y => ((⟨(lineT y).toArray⟩ : ByteArray), true)) = recs (preF [] t) from rfl, hr, readAll, putP]
end Go.Proofs.YtdnhjnlhmfajnaaDoor.G
