/- The walk to a place stays behind a put at that place: plain. -/
import Derived.Test.YthlcjjhfkldmhaaDoorVPlain
set_option linter.unusedVariables false
set_option linter.unusedSimpArgs false
section
namespace Go.Proofs.YthlcjjhfkldmhaaDoor.G
open Go.RowKit Go.Lib Go.Proofs.YthlcjjhfkldmhaaDoorW.PrintWords Go.Proofs.YthlcjjhfkldmhaaDoorW.PrintLast
set_option linter.unusedVariables false
set_option linter.unusedSimpArgs false

/-- What every walk's answer says of itself. -/
def Sound (last : Bool) (r : WR) : Prop := (r.2.2.2 ≠ 0 → r.1 = []) ∧ (r.2.2.2 = 0 → r.1.length ≤ 64 ∧ (r.2.2.1 = true → last = true → r.2.1.kind ≠ 3))
theorem sound_bad (last : Bool) (k : Int) (hk : k ≠ 0) : Sound last (badW k) := ⟨fun _ => rfl, fun h => absurd h hk⟩
theorem walkIn_sound (last : Bool) (follow : Option (List ByteArray → WR)) (hf : ∀ g, follow = some g → ∀ todo, todo.length ≤ 64 → Sound last (g todo)) :
    ∀ (todo done : List ByteArray) (here : File), done.length + todo.length ≤ 64 → (last = true → here.kind ≠ 3) → Sound last (walkIn last follow todo done here)
  | [], done, here, hl, hk => by
    rw [walkIn]
    exact ⟨fun h => absurd rfl h, fun _ => And.intro (by simpa using hl) (fun _ => hk)⟩
  | n :: rest, done, here, hl, hk => by
    simp only [List.length_cons] at hl
    rw [walkIn]
    split
    · split
      · split
        · rename_i h0
          exact ⟨fun h => absurd rfl h, fun _ => And.intro (by rw [List.length_append, List.length_singleton]; omega) (fun h => Bool.noConfusion h)⟩
        · exact sound_bad _ _ (by decide)
      · rename_i x hx
        split
        · split
          · exact sound_bad _ _ (by decide)
          · rename_i g
            split
            · split
              · rename_i h64
                exact hf g rfl _ h64
              · exact sound_bad _ _ (by decide)
            · rename_i hz
              exact sound_bad _ _ hz
        · rename_i h3
          exact walkIn_sound last follow hf rest (done ++ [n]) x (by rw [List.length_append, List.length_singleton]; omega) fun hl2 h => h3 ⟨h, fun h4 => by rw [hl2] at h4; exact absurd h4.2 (by decide)⟩
    · exact sound_bad _ _ (by decide)
theorem follow_sound (t : File) (ht : t.kind = 1) (last : Bool) : ∀ (k : Nat) (g : List ByteArray → WR), followK t last k = some g → ∀ todo, todo.length ≤ 64 → Sound last (g todo)
  | 0, g, h => by simp [followK] at h
  | k + 1, g, h => by
    intro todo h64
    simp only [followK, Option.some.injEq] at h
    subst h
    exact walkIn_sound last (followK t last k) (follow_sound t ht last k) todo [] t (by simpa using h64) fun _ => by omega
theorem walk_sound (t : File) (ht : t.kind = 1) (p : List ByteArray) (last : Bool) : Sound last (walkR t p last) := by
  unfold walkR
  split
  · rename_i h64
    exact walkIn_sound last (followK t last 40) (follow_sound t ht last 40) p [] t (by simpa using h64) fun _ => by omega
  · exact sound_bad _ _ (by decide)
theorem go_find {d x : File} {n : ByteArray} {r : List ByteArray} {y : File} (hs : SortF d) (h : goP d (n :: r) = (0, some y)) : ∃ x, d.kind = 1 ∧ d.files.find? (nameIs n) = some x ∧ goP x r = (0, some y) := by
  rw [goP_find hs] at h
  split at h
  · rename_i hk
    split at h
    · rename_i x hx
      exact ⟨x, hk, hx, h⟩
    · simp at h
  · simp at h
/-- What stands at a path of folders is walked to. -/
theorem walkIn_real (last : Bool) (follow : Option (List ByteArray → WR)) (y : File) (hy : y.kind ≠ 3 ∨ last = false) :
    ∀ (todo done : List ByteArray) (here : File), SortF here → goP here todo = (0, some y) → walkIn last follow todo done here = (done ++ todo, y, true, 0)
  | [], done, here, hs, h => by
    rw [goP] at h
    injection h with _ h
    injection h with h
    rw [walkIn, h, List.append_nil]
  | n :: rest, done, here, hs, h => by
    obtain ⟨x, hk, hx, hg⟩ := go_find (x := y) hs h
    have hsx := go_sort [n] here x 0 hs (go_one hs hk hx)
    rw [walkIn, if_pos hk, hx]
    simp only
    rw [if_neg, walkIn_real last follow y hy rest (done ++ [n]) x hsx hg, List.append_assoc]
    · rfl
    · rintro ⟨h3, h4⟩
      cases rest with
      | nil =>
        rw [goP] at hg
        injection hg with _ hg
        injection hg with hg
        subst hg
        rcases hy with hy | hy
        · exact hy h3
        · exact h4 ⟨rfl, hy⟩
      | cons m r =>
        obtain ⟨z, hz, _⟩ := go_find (x := y) hsx hg
        omega
/-- What does not stand, in a folder of folders, is walked to. -/
theorem walkIn_absent (last : Bool) (follow : Option (List ByteArray → WR)) (d : File) (n : ByteArray) (hd : d.kind = 1) (hn : d.files.find? (nameIs n) = none) :
    ∀ (todo done : List ByteArray) (here : File), SortF here → goP here todo = (0, some d) → walkIn last follow (todo ++ [n]) done here = (done ++ (todo ++ [n]), zeroF, false, 0)
  | [], done, here, hs, h => by
    rw [goP] at h
    injection h with _ h
    injection h with h
    subst h
    rw [List.nil_append, walkIn, if_pos hd, hn]
    simp
  | m :: rest, done, here, hs, h => by
    obtain ⟨x, hk, hx, hg⟩ := go_find (x := d) hs h
    have hsx := go_sort [m] here x 0 hs (go_one hs hk hx)
    rw [List.cons_append, walkIn, if_pos hk, hx]
    simp only
    rw [if_neg, walkIn_absent last follow d n hd hn rest (done ++ [m]) x hsx hg, List.append_assoc]
    · rfl
    · rintro ⟨h3, h4⟩
      cases rest with
      | nil =>
        rw [goP] at hg
        injection hg with _ hg
        injection hg with hg
        subst hg
        omega
      | cons a r =>
        obtain ⟨z, hz, _⟩ := go_find (x := d) hsx hg
        omega
theorem real_good {t : File} {p : List ByteArray} {last : Bool} (h : (realR t p last).2 = 0) : rightT t = true ∧ P.rightB p = true ∧ (walkR t p last).2.2.2 = 0 ∧ (realR t p last).1 = (walkR t p last).1 := by
  unfold realR at h ⊢
  split at h
  · rename_i ht
    rw [if_pos ht]
    split at h
    · rename_i hp
      rw [if_pos hp]
      exact ⟨ht, hp, h, rfl⟩
    · simp at h
  · simp at h
end Go.Proofs.YthlcjjhfkldmhaaDoor.G
end
section
namespace Go.Proofs.YthlcjjhfkldmhaaDoor.G
open Go.RowKit Go.Lib Go.Proofs.YthlcjjhfkldmhaaDoorW.PrintWords Go.Proofs.YthlcjjhfkldmhaaDoorW.PrintLast
set_option linter.unusedVariables false
set_option linter.unusedSimpArgs false

/-- Two lists of files, one by one. -/
def AllTwo (R : File → File → Prop) : List File → List File → Prop
  | [], [] => True
  | x :: l, y :: m => R x y ∧ AllTwo R l m
  | _, _ => False
theorem two_same {R : File → File → Prop} : ∀ {l : List File}, (∀ x ∈ l, R x x) → AllTwo R l l
  | [], _ => trivial
  | x :: l, h => ⟨h x (List.mem_cons_self ..), two_same fun y hy => h y (List.mem_cons_of_mem _ hy)⟩
theorem two_at {R : File → File → Prop} {x y : File} (hxy : R x y) : ∀ {a b : List File}, (∀ z ∈ a, R z z) → (∀ z ∈ b, R z z) → AllTwo R (a ++ x :: b) (a ++ y :: b)
  | [], b, _, hb => ⟨hxy, two_same hb⟩
  | z :: a, b, ha, hb => ⟨ha z (List.mem_cons_self ..), two_at hxy (fun y hy => ha y (List.mem_cons_of_mem _ hy)) hb⟩
theorem wrongL_two {rec rec' : File → List ByteArray → Option (List ByteArray)} {p : List ByteArray} : ∀ {l m : List File} {prev : Option ByteArray},
    AllTwo (fun x y => x.name = y.name ∧ aloneB x = aloneB y ∧ ∀ q, rec x q = none → rec' y q = none) l m → wrongL rec p prev l = none → wrongL rec' p prev m = none
  | [], [], _, _, _ => rfl
  | [], _ :: _, _, h, _ => h.elim
  | _ :: _, [], _, h, _ => h.elim
  | x :: l, y :: m, prev, ⟨⟨h1, h2, h3⟩, h4⟩, h => by
    rw [wrongL] at h ⊢
    have hb : badF prev (p ++ [y.name]) y = badF prev (p ++ [x.name]) x := by
      unfold badF
      rw [h1, h2]
    rw [hb, ← h1]
    split at h
    · cases h
    · rename_i hn
      rw [if_neg hn]
      split at h
      · cases h
      · rename_i hr
        rw [h3 _ hr]
        exact wrongL_two h4 h
theorem wrong_fuel : ∀ (n m : Nat) (f : File) (p : List ByteArray), f.bulk ≤ n → f.bulk ≤ m → wrongN n f p = none → wrongN m f p = none
  | 0, m, f, p, h, _, _ => by have := bulk_eq f; omega
  | n + 1, 0, f, p, _, h, _ => by have := bulk_eq f; omega
  | n + 1, m + 1, f, p, h1, h2, h => by
    rw [wrongN] at h ⊢
    exact wrongL_two (two_same fun x hx => ⟨rfl, rfl, fun q hq => wrong_fuel n m x q (by have := bulk_child hx; omega) (by have := bulk_child hx; omega) hq⟩) h
/-- The same tree, but for the data of one text. -/
inductive LikeF : File → File → Prop
  | text (n d e : ByteArray) : LikeF ⟨n, 2, d, []⟩ ⟨n, 2, e, []⟩
  | deep (n : ByteArray) (k : Int) (d : ByteArray) (a b : List File) (x y : File) : LikeF x y → LikeF ⟨n, k, d, a ++ x :: b⟩ ⟨n, k, d, a ++ y :: b⟩
theorem like_name {f g : File} (h : LikeF f g) : f.name = g.name := by cases h <;> rfl
theorem like_alone {f g : File} (h : LikeF f g) : aloneB f = aloneB g := by
  cases h with
  | text n d e => rfl
  | deep n k d a b x y h => simp [aloneB]
theorem like_wrong {f g : File} (h : LikeF f g) : ∀ (n m : Nat) (p : List ByteArray), f.bulk ≤ n → g.bulk ≤ m → wrongN n f p = none → wrongN m g p = none := by
  induction h with
  | text n d e =>
    intro i j p h1 h2 _
    cases j with
    | zero => rfl
    | succ j => rfl
  | deep n k d a b x y h ih =>
    intro i j p h1 h2 h3
    cases i with
    | zero => have := bulk_eq ⟨n, k, d, a ++ x :: b⟩; omega
    | succ i =>
      cases j with
      | zero => have := bulk_eq ⟨n, k, d, a ++ y :: b⟩; omega
      | succ j =>
        have hm : ∀ {z : File}, z ∈ a ∨ z ∈ b → z.bulk + 4 ≤ i + 1 ∧ z.bulk + 4 ≤ j + 1 := fun {z} hz => by
          have e1 := bulk_child (f := ⟨n, k, d, a ++ x :: b⟩) (x := z) (by show z ∈ a ++ x :: b; simp only [List.mem_append, List.mem_cons]; rcases hz with h | h <;> simp [h])
          have e2 := bulk_child (f := ⟨n, k, d, a ++ y :: b⟩) (x := z) (by show z ∈ a ++ y :: b; simp only [List.mem_append, List.mem_cons]; rcases hz with h | h <;> simp [h])
          omega
        have hx := bulk_child (f := ⟨n, k, d, a ++ x :: b⟩) (x := x) (by show x ∈ a ++ x :: b; simp)
        have hy := bulk_child (f := ⟨n, k, d, a ++ y :: b⟩) (x := y) (by show y ∈ a ++ y :: b; simp)
        have hs : ∀ z, z ∈ a ∨ z ∈ b → (z.name = z.name ∧ aloneB z = aloneB z ∧ ∀ q, wrongN i z q = none → wrongN j z q = none) := fun z hz => ⟨rfl, rfl, fun q hq => wrong_fuel i j z q (by have := hm hz; omega) (by have := hm hz; omega) hq⟩
        rw [wrongN] at h3 ⊢
        exact wrongL_two (two_at ⟨like_name h, like_alone h, fun q hq => ih i j q (by omega) (by omega) hq⟩ (fun z hz => hs z (.inl hz)) (fun z hz => hs z (.inr hz))) h3
theorem like_right {f g : File} (h : LikeF f g) (hr : rightT f = true) : rightT g = true := by
  obtain ⟨hw, hk⟩ := right_wrong hr
  cases h with
  | text n d e => exact absurd hk (by show ¬ (2 : Int) = 1; decide)
  | deep n k d a b x y h =>
    have hw2 := like_wrong (.deep n k d a b x y h) _ _ [] (Nat.le_refl _) (Nat.le_refl _) hw
    unfold rightT checkR at hr ⊢
    split at hr
    · rename_i hc
      rw [if_pos hc, hw2]
      rw [hw] at hr
      exact hr
    · exact absurd hr (by decide)
theorem like_ins (l : List File) (n d e : ByteArray) (x : ByteArray) (k : Int) (v : ByteArray) : LikeF ⟨x, k, v, insF l ⟨n, 2, d, []⟩⟩ ⟨x, k, v, insF l ⟨n, 2, e, []⟩⟩ := by
  unfold insF
  show LikeF ⟨x, k, v, if foundB l n = true then _ else _⟩ ⟨x, k, v, if foundB l n = true then _ else _⟩
  split
  · exact .deep _ _ _ _ _ _ _ (.text n d e)
  · exact .deep _ _ _ _ _ _ _ (.text n d e)
theorem like_put : ∀ (q : List ByteArray) (f d y z : File), goP f q = (0, some d) → LikeF y z → LikeF (putP f q y) (putP f q z)
  | [], f, d, y, z, _, h => h
  | n :: q, f, d, y, z, hg, h => by
    obtain ⟨x, hk, hx, hn, hg2⟩ := goP_full hg
    have ih := like_put q x d y z hg2 h
    rw [putP, putP, hx]
    simp only
    obtain ⟨hi, _⟩ := List.getElem?_eq_some_iff.1 hx
    rw [List.set_eq_take_append_cons_drop, List.set_eq_take_append_cons_drop, if_pos hi, if_pos hi]
    cases f with
    | mk a b c l => exact .deep _ _ _ _ _ _ _ ih
/-- A put that goes through goes through with any data. -/
theorem put_data {t : File} {p : List ByteArray} {d : ByteArray} (e : ByteArray) (h : (putA t p (textF d)).2 = 0) : (putA t p (textF e)).2 = 0 := by
  obtain ⟨q, n, rfl, h1, h2⟩ := putA_ok h
  obtain ⟨y, hg, hk, ht, hr, hp, hn⟩ := put_ok h1
  rw [putA_snoc]
  unfold putR
  rw [if_pos ht, hg]
  simp only
  rw [if_pos hk, if_pos]
  have hl : LikeF (putP t q { y with files := insF y.files (nameF (textF d) n) }) (putP t q { y with files := insF y.files (nameF (textF e) n) }) := like_put q t y _ _ hg (like_ins y.files n d e _ _ _)
  rw [hp] at hr
  exact like_right hl hr
end Go.Proofs.YthlcjjhfkldmhaaDoor.G
end
section
namespace Go.Proofs.YthlcjjhfkldmhaaDoor.G
open Go.RowKit Go.Lib Go.Proofs.YthlcjjhfkldmhaaDoorW.PrintWords Go.Proofs.YthlcjjhfkldmhaaDoorW.PrintLast
set_option linter.unusedVariables false
set_option linter.unusedSimpArgs false

theorem go_nil (t : File) : goP t [] = (0, some t) := by rw [goP]
/-- On the way to a folder lie folders. -/
theorem go_way : ∀ (r s : List ByteArray) (t d : File), goP t (r ++ s) = (0, some d) → d.kind = 1 → ∃ h, goP t r = (0, some h) ∧ h.kind = 1
  | [], s, t, d, hg, hk => by
    refine ⟨t, go_nil t, ?_⟩
    cases s with
    | nil =>
      rw [List.nil_append, go_nil] at hg
      injection hg with _ hg
      injection hg with hg
      rw [hg]
      exact hk
    | cons m s =>
      obtain ⟨x, h, _⟩ := goP_full hg
      exact h
  | n :: r, s, t, d, hg, hk => by
    rw [List.cons_append] at hg
    obtain ⟨x, h1, h2, h3, h4⟩ := goP_full hg
    obtain ⟨h, h5, h6⟩ := go_way r s x d h4 hk
    exact ⟨h, by rw [goP_mk h1 h2 h3]; exact h5, h6⟩
/-- What a folder's names are looked up by. -/
theorem find_go {t here x : File} {done : List ByteArray} {n : ByteArray} (ht : SortF t) (hg : goP t done = (0, some here)) (hk : here.kind = 1) : here.files.find? (nameIs n) = some x ↔ goP t (done ++ [n]) = (0, some x) := by
  have hs := go_sort done t here 0 ht hg
  rw [go_app done [n] t here hg, goP_find hs, if_pos hk]
  constructor
  · intro h
    rw [h]
    exact go_nil x
  · intro h
    cases hf : here.files.find? (nameIs n) with
    | none => rw [hf] at h; simp at h
    | some y =>
      rw [hf] at h
      simp only at h
      rw [go_nil] at h
      injection h with _ h
/-- Two trees that differ at one place, where a text stands in the one. -/
structure Spot (t u : File) (q : List ByteArray) (y : File) : Prop where
  st : SortF t
  su : SortF u
  ne : q ≠ []
  ty : y.kind = 2
  at_ : goP u q = (0, some y)
  old : ∀ x, goP t q = (0, some x) → x.kind = 2
  way : ∀ r, r <+: q → r ≠ q → ∃ h h', goP t r = (0, some h) ∧ h.kind = 1 ∧ goP u r = (0, some h') ∧ h'.kind = 1
  off : ∀ r, ¬ q <+: r → ¬ r <+: q → goP u r = goP t r
theorem spot_kind {t u y here here' : File} {q done : List ByteArray} (S : Spot t u q y) (hn : ¬ q <+: done) (hg : goP t done = (0, some here)) (hg' : goP u done = (0, some here')) : here'.kind = here.kind := by
  by_cases hp : done <+: q
  · obtain ⟨h, h', h1, h2, h3, h4⟩ := S.way done hp fun e => hn (e ▸ List.prefix_refl _)
    rw [h1] at hg
    rw [h3] at hg'
    injection hg with _ hg
    injection hg with hg
    injection hg' with _ hg'
    injection hg' with hg'
    rw [← hg, ← hg', h2, h4]
  · have h := S.off done hn hp
    rw [hg, hg'] at h
    injection h with _ h
    injection h with h
    rw [h]
theorem walkIn_spot {t u y : File} {q : List ByteArray} (S : Spot t u q y) (last : Bool) (fol fol' : Option (List ByteArray → WR)) (hf : ∀ g, fol = some g → ∃ g', fol' = some g' ∧ ∀ todo, (g todo).2.2.2 = 0 → (g todo).1 = q → g' todo = (q, y, true, 0)) :
    ∀ (todo done : List ByteArray) (here here' : File), goP t done = (0, some here) → goP u done = (0, some here') → ¬ q <+: done →
      (walkIn last fol todo done here).2.2.2 = 0 → (walkIn last fol todo done here).1 = q → walkIn last fol' todo done here' = (q, y, true, 0)
  | [], done, here, here', hg, hg', hn, _, h1 => by
    rw [walkIn] at h1
    exact absurd (h1 ▸ List.prefix_refl _) hn
  | n :: rest, done, here, here', hg, hg', hn, h0, h1 => by
    have hkk := spot_kind S hn hg hg'
    rw [walkIn] at h0 h1 ⊢
    split at h0
    · rename_i hk
      rw [if_pos hk] at h1
      have hk' : here'.kind = 1 := hkk.trans hk
      rw [if_pos hk']
      by_cases hrq : done ++ [n] = q
      · have hy : here'.files.find? (nameIs n) = some y := (find_go S.su hg' hk').2 (by rw [hrq]; exact S.at_)
        rw [hy]
        simp only
        have hy3 : ¬ (y.kind = 3 ∧ ¬ (rest.length = 0 ∧ last = false)) := fun h => by have := S.ty; have := h.1; omega
        rw [if_neg hy3]
        have hrest : rest = [] := by
          split at h0
          · split at h0
            · rename_i hr
              exact List.length_eq_zero_iff.1 hr
            · exact absurd h0 (by show ¬ (31 : Int) = 0; decide)
          · rename_i x hx
            have hx2 := S.old x (by rw [← hrq]; exact (find_go S.st hg hk).1 hx)
            have hx3 : ¬ (x.kind = 3 ∧ ¬ (rest.length = 0 ∧ last = false)) := fun h => by have := h.1; omega
            rw [if_neg hx3] at h0
            cases rest with
            | nil => rfl
            | cons m r =>
              rw [walkIn, if_neg (by omega)] at h0
              exact absurd h0 (by show ¬ (32 : Int) = 0; decide)
        subst hrest
        rw [walkIn, hrq]
      · have hnq : ¬ q <+: done ++ [n] := fun h => by
          rcases List.prefix_concat_iff.1 h with h | h
          · exact hrq h.symm
          · exact hn h
        by_cases hp : done ++ [n] <+: q
        · obtain ⟨h, h', e1, e2, e3, e4⟩ := S.way _ hp hrq
          have f1 := (find_go S.st hg hk).2 e1
          have f2 := (find_go S.su hg' hk').2 e3
          rw [f1] at h0 h1
          rw [f2]
          simp only at h0 h1 ⊢
          have g1 : ¬ (h.kind = 3 ∧ ¬ (rest.length = 0 ∧ last = false)) := fun e => by have := e.1; omega
          have g2 : ¬ (h'.kind = 3 ∧ ¬ (rest.length = 0 ∧ last = false)) := fun e => by have := e.1; omega
          rw [if_neg g1] at h0 h1
          rw [if_neg g2]
          exact walkIn_spot S last fol fol' hf rest _ h h' e1 e3 hnq h0 h1
        · have ho := S.off _ hnq hp
          cases hx : here.files.find? (nameIs n) with
          | none =>
            rw [hx] at h0 h1
            simp only at h0 h1
            split at h0
            · rename_i hr
              rw [if_pos hr] at h1
              exact absurd h1 hrq
            · exact absurd h0 (by show ¬ (31 : Int) = 0; decide)
          | some x =>
            have e1 := (find_go S.st hg hk).1 hx
            have e3 : goP u (done ++ [n]) = (0, some x) := ho.trans e1
            have f2 := (find_go S.su hg' hk').2 e3
            rw [hx] at h0 h1
            rw [f2]
            simp only at h0 h1 ⊢
            split at h0
            · rename_i h3
              rw [if_pos h3] at h1 ⊢
              split at h0
              · exact absurd h0 (by show ¬ (41 : Int) = 0; decide)
              · rename_i g
                obtain ⟨g', rfl, hgg⟩ := hf g rfl
                simp only at h1 ⊢
                split at h0
                · rename_i hz
                  rw [if_pos hz] at h1 ⊢
                  split at h0
                  · rename_i h64
                    rw [if_pos h64] at h1 ⊢
                    exact hgg _ h0 h1
                  · exact absurd h0 (by show ¬ (3 : Int) = 0; decide)
                · rename_i hz
                  exact absurd h0 hz
            · rename_i h3
              rw [if_neg h3] at h1 ⊢
              exact walkIn_spot S last fol fol' hf rest _ x x e1 e3 hnq h0 h1
    · exact absurd h0 (by show ¬ (32 : Int) = 0; decide)
theorem follow_spot {t u y : File} {q : List ByteArray} (S : Spot t u q y) (last : Bool) : ∀ (k : Nat) (g : List ByteArray → WR), followK t last k = some g → ∃ g', followK u last k = some g' ∧ ∀ todo, (g todo).2.2.2 = 0 → (g todo).1 = q → g' todo = (q, y, true, 0)
  | 0, g, h => by simp [followK] at h
  | k + 1, g, h => by
    simp only [followK, Option.some.injEq] at h
    subst h
    exact ⟨_, rfl, fun todo h0 h1 => walkIn_spot S last _ _ (follow_spot S last k) todo [] t u (go_nil t) (go_nil u) (fun h => S.ne (List.prefix_nil.1 h)) h0 h1⟩
/-- A walk that ends at the place ends there again, and finds the text. -/
theorem walk_spot {t u y : File} {q p : List ByteArray} {last : Bool} (S : Spot t u q y) (h0 : (walkR t p last).2.2.2 = 0) (h1 : (walkR t p last).1 = q) : walkR u p last = (q, y, true, 0) := by
  unfold walkR at h0 h1 ⊢
  split at h0
  · rename_i h64
    rw [if_pos h64] at h1 ⊢
    exact walkIn_spot S last _ _ (follow_spot S last 40) p [] t u (go_nil t) (go_nil u) (fun h => S.ne (List.prefix_nil.1 h)) h0 h1
  · exact absurd h0 (by show ¬ (3 : Int) = 0; decide)
end Go.Proofs.YthlcjjhfkldmhaaDoor.G
end
