/- Where a real path leads: plain. -/
import Derived.Test.YthlcjjhfkldmhaaDoorVPut
import Derived.Test.YthlcjjhfkldmhaaDoorVSpec
set_option linter.unusedVariables false
set_option linter.unusedSimpArgs false
section
namespace Go.Proofs.YthlcjjhfkldmhaaDoor.G
open Go.RowKit Go.Lib Go.Proofs.YthlcjjhfkldmhaaDoorW.PrintWords Go.Proofs.YthlcjjhfkldmhaaDoorW.PrintLast
set_option linter.unusedVariables false

/-- Those that have come up, as bits. -/
def bq (n m : Nat) : Array Bool := ((List.range n).map (fun j => m.testBit j)).toArray
/-- The cells of a request, with what it tells. -/
def reqCells (x : Req) (Ap : Option Addr) (cp : Nat) (Ad : Option Addr) (cd : Nat) (tl : Told) : Array Value := #[.slice Ap x.p.length cp, .slice Ad x.dest.length cd, .string tl.data, .int .u8 tl.kind, .int .i64 tl.size]
/-- What a call leaves. -/
def OpPost (w : World) (g r : Nat) (O : Nat → Prop) (tb : Option Nat) (f : FsV) (x : Req) (Ap : Option Addr) (cp : Nat) (Ad : Option Addr) (cd : Nat) (res : File × Told × Int) (e : Ending) (w' : World) : Prop :=
  e = .returned (.int .i64 res.2.2) ∧ FsAt w' g (fun k => O k ∨ w.heap.size ≤ k ∧ k < w'.heap.size) tb { f with tree := res.1 } ∧ w'.heap[r]? = some (.cells (reqCells x Ap cp Ad cd res.2.1) 94 (0, 0)) ∧ Only (fun k => k = g ∨ k = r) w w'
theorem textF_bulk (d : ByteArray) : (textF d).bulk = 4 + d.size := by
  rw [bulk_eq]
  show 4 + 0 + d.size + 0 = _
  omega
theorem sumP_app (a b : List ByteArray) : P.sumP (a ++ b) = P.sumP a + P.sumP b := by simp [P.sumP, List.sum_append]
theorem sumP_cons (n : ByteArray) (b : List ByteArray) : P.sumP (n :: b) = 1 + (n.size : Int) + P.sumP b := by simp [P.sumP]
theorem sumP_one (n : ByteArray) : P.sumP [n] = 1 + (n.size : Int) := by simp [P.sumP]
theorem sumP_in {l : List ByteArray} {n : ByteArray} (h : n ∈ l) : (n.size : Int) + 1 ≤ P.sumP l := by
  induction l with
  | nil => cases h
  | cons a l ih =>
    have h1 := sumP_cons a l
    have h2 := P.sumP_nonneg l
    rcases List.mem_cons.1 h with rfl | h
    · omega
    · have := ih h; omega
theorem walkIn_sum (last : Bool) (follow : Option (List ByteArray → WR)) (S : Int) (hS : 0 ≤ S) (hf : ∀ g, follow = some g → ∀ todo, P.sumP (g todo).1 ≤ P.sumP todo + S) :
    ∀ (todo done : List ByteArray) (here : File), P.sumP (walkIn last follow todo done here).1 ≤ P.sumP done + P.sumP todo + S + 1024
  | [], done, here => by
    rw [walkIn]
    have : P.sumP ([] : List ByteArray) = 0 := rfl
    simp only
    omega
  | n :: rest, done, here => by
    have hd := P.sumP_nonneg done
    have hr := P.sumP_nonneg rest
    have hc := sumP_cons n rest
    have h0 : P.sumP ([] : List ByteArray) = 0 := rfl
    have hb : ∀ k, P.sumP (badW k).1 ≤ P.sumP done + P.sumP (n :: rest) + S + 1024 := fun k => by show P.sumP [] ≤ _; omega
    rw [walkIn]
    split
    · split
      · split
        · show P.sumP (done ++ [n]) ≤ _
          rw [sumP_app, sumP_one]
          omega
        · exact hb _
      · rename_i x hx
        split
        · split
          · exact hb _
          · rename_i g
            split
            · rename_i hz
              split
              · have h1 := hf g rfl ((P.normR done x.data).1 ++ rest)
                rw [sumP_app] at h1
                have h2 := P.norm_sum done x.data hz
                omega
              · exact hb _
            · exact hb _
        · have h1 := walkIn_sum last follow S hS hf rest (done ++ [n]) x
          rw [sumP_app, sumP_one] at h1
          omega
    · exact hb _
theorem follow_sum (t : File) (last : Bool) : ∀ (k : Nat) (g : List ByteArray → WR), followK t last k = some g → ∀ todo, P.sumP (g todo).1 ≤ P.sumP todo + 1024 * (k : Int)
  | 0, g, h => by simp [followK] at h
  | k + 1, g, h => by
    intro todo
    simp only [followK, Option.some.injEq] at h
    subst h
    have h1 := walkIn_sum last (followK t last k) (1024 * (k : Int)) (by omega) (follow_sum t last k) todo [] t
    have h0 : P.sumP ([] : List ByteArray) = 0 := rfl
    simp only
    omega
theorem walk_sum (t : File) (p : List ByteArray) (last : Bool) : P.sumP (walkR t p last).1 ≤ P.sumP p + 41984 := by
  have h0 : P.sumP ([] : List ByteArray) = 0 := rfl
  have hp := P.sumP_nonneg p
  unfold walkR
  split
  · have h1 := walkIn_sum last (followK t last 40) (1024 * (40 : Nat)) (by omega) (follow_sum t last 40) p [] t
    omega
  · show P.sumP [] ≤ _
    omega
theorem walkIn_bulk (last : Bool) (follow : Option (List ByteArray → WR)) (b : Nat) (hf : ∀ g, follow = some g → ∀ todo, (g todo).2.1.bulk ≤ b + 4) :
    ∀ (todo done : List ByteArray) (here : File), here.bulk ≤ b → (walkIn last follow todo done here).2.1.bulk ≤ b + 4
  | [], done, here, h => by
    rw [walkIn]
    simp only
    omega
  | n :: rest, done, here, h => by
    have hz := zero_bulk4
    have hb : ∀ k, (badW k).2.1.bulk ≤ b + 4 := fun k => by show zeroF.bulk ≤ _; omega
    rw [walkIn]
    split
    · split
      · split
        · show zeroF.bulk ≤ _; omega
        · exact hb _
      · rename_i x hx
        split
        · split
          · exact hb _
          · rename_i g
            split
            · split
              · exact hf g rfl _
              · exact hb _
            · exact hb _
        · have h1 := bulk_child (List.mem_of_find?_eq_some hx)
          exact walkIn_bulk last follow b hf rest (done ++ [n]) x (by omega)
    · exact hb _
theorem follow_bulk (t : File) (last : Bool) : ∀ (k : Nat) (g : List ByteArray → WR), followK t last k = some g → ∀ todo, (g todo).2.1.bulk ≤ t.bulk + 4
  | 0, g, h => by simp [followK] at h
  | k + 1, g, h => by
    intro todo
    simp only [followK, Option.some.injEq] at h
    subst h
    exact walkIn_bulk last (followK t last k) t.bulk (follow_bulk t last k) todo [] t (Nat.le_refl _)
theorem walk_bulk (t : File) (p : List ByteArray) (last : Bool) : (walkR t p last).2.1.bulk ≤ t.bulk + 4 := by
  have hz := zero_bulk4
  unfold walkR
  split
  · exact walkIn_bulk last (followK t last 40) t.bulk (follow_bulk t last 40) p [] t (Nat.le_refl _)
  · show zeroF.bulk ≤ _; omega
end Go.Proofs.YthlcjjhfkldmhaaDoor.G
end
section
namespace Go.Proofs.YthlcjjhfkldmhaaDoor.G
open Go.RowKit Go.Lib Go.Proofs.YthlcjjhfkldmhaaDoorW.PrintWords Go.Proofs.YthlcjjhfkldmhaaDoorW.PrintLast
set_option linter.unusedVariables false
set_option linter.unusedSimpArgs false

/-- What a walk says of a tree. -/
def There (t : File) (r : WR) : Prop := r.2.2.2 = 0 → (r.2.2.1 = true → goP t r.1 = (0, some r.2.1)) ∧ (r.2.2.1 = false → r.2.1 = zeroF ∧ ∃ q n d, r.1 = q ++ [n] ∧ goP t q = (0, some d) ∧ d.kind = 1 ∧ d.files.find? (nameIs n) = none)
theorem there_bad (t : File) (k : Int) (hk : k ≠ 0) : There t (badW k) := fun h => absurd h hk
theorem go_one {d x : File} {n : ByteArray} (hs : SortF d) (hk : d.kind = 1) (hx : d.files.find? (nameIs n) = some x) : goP d [n] = (0, some x) := by
  rw [goP_find hs, if_pos hk, hx]
  simp only
  rw [goP]
theorem walkIn_there (t : File) (ht : SortF t) (last : Bool) (follow : Option (List ByteArray → WR)) (hf : ∀ g, follow = some g → ∀ todo, There t (g todo)) :
    ∀ (todo done : List ByteArray) (here : File), goP t done = (0, some here) → There t (walkIn last follow todo done here)
  | [], done, here, h => by
    rw [walkIn]
    exact fun _ => And.intro (fun _ => h) (fun h2 => Bool.noConfusion h2)
  | n :: rest, done, here, h => by
    have hs := go_sort done t here 0 ht h
    rw [walkIn]
    split
    · rename_i hk
      split
      · rename_i hn
        split
        · exact fun _ => And.intro (fun h2 => Bool.noConfusion h2) (fun _ => ⟨rfl, done, n, here, rfl, h, hk, hn⟩)
        · exact there_bad _ _ (by decide)
      · rename_i x hx
        split
        · split
          · exact there_bad _ _ (by decide)
          · rename_i g
            split
            · split
              · exact hf g rfl _
              · exact there_bad _ _ (by decide)
            · rename_i hz
              exact there_bad _ _ hz
        · exact walkIn_there t ht last follow hf rest (done ++ [n]) x ((go_app done [n] t here h).trans (go_one hs hk hx))
    · exact there_bad _ _ (by decide)
theorem follow_there (t : File) (ht : SortF t) (last : Bool) : ∀ (k : Nat) (g : List ByteArray → WR), followK t last k = some g → ∀ todo, There t (g todo)
  | 0, g, h => by simp [followK] at h
  | k + 1, g, h => by
    intro todo
    simp only [followK, Option.some.injEq] at h
    subst h
    exact walkIn_there t ht last (followK t last k) (follow_there t ht last k) todo [] t (by rw [goP])
theorem walk_there (t : File) (ht : rightT t = true) (p : List ByteArray) (last : Bool) : There t (walkR t p last) := by
  unfold walkR
  split
  · exact walkIn_there t (right_sort ht) last (followK t last 40) (follow_there t (right_sort ht) last 40) p [] t (by rw [goP])
  · exact there_bad _ _ (by decide)
theorem right_wrong {t : File} (h : rightT t = true) : wrongN t.bulk t [] = none ∧ t.kind = 1 := by
  unfold rightT checkR at h
  split at h
  · rename_i hk
    refine ⟨?_, hk.1⟩
    cases hw : wrongN t.bulk t [] with
    | none => rfl
    | some b => rw [hw] at h; simp [checkO] at h
  · simp at h
end Go.Proofs.YthlcjjhfkldmhaaDoor.G
end
section
namespace Go.Proofs.YthlcjjhfkldmhaaDoor.G
open Go.RowKit Go.Lib Go.Proofs.YthlcjjhfkldmhaaDoorW.PrintWords Go.Proofs.YthlcjjhfkldmhaaDoorW.PrintLast
set_option linter.unusedVariables false
set_option linter.unusedSimpArgs false

/-- What every walk's answer says of itself. -/
def Sound (last : Bool) (r : WR) : Prop := (r.2.2.2 ≠ 0 → r.1 = []) ∧ (r.2.2.2 = 0 → r.1.length ≤ 64 ∧ (r.2.2.1 = true → last = true → r.2.1.kind ≠ 3))
theorem sound_bad (last : Bool) (k : Int) (hk : k ≠ 0) : Sound last (badW k) := ⟨fun _ => rfl, fun h => absurd h hk⟩
theorem walkIn_sound (last : Bool) (follow : Option (List ByteArray → WR)) (hf : ∀ g, follow = some g → ∀ todo, todo.length ≤ 64 → Sound last (g todo)) :
    ∀ (todo done : List ByteArray) (here : File), done.length + todo.length ≤ 64 → (last = true → here.kind ≠ 3) → Sound last (walkIn last follow todo done here)
  | [], done, here, hl, hk => by
    rw [walkIn]
    exact ⟨fun h => absurd rfl h, fun _ => And.intro (by simpa using hl) (fun _ => hk)⟩
  | n :: rest, done, here, hl, hk => by
    simp only [List.length_cons] at hl
    rw [walkIn]
    split
    · split
      · split
        · rename_i h0
          exact ⟨fun h => absurd rfl h, fun _ => And.intro (by rw [List.length_append, List.length_singleton]; omega) (fun h => Bool.noConfusion h)⟩
        · exact sound_bad _ _ (by decide)
      · rename_i x hx
        split
        · split
          · exact sound_bad _ _ (by decide)
          · rename_i g
            split
            · split
              · rename_i h64
                exact hf g rfl _ h64
              · exact sound_bad _ _ (by decide)
            · rename_i hz
              exact sound_bad _ _ hz
        · rename_i h3
          exact walkIn_sound last follow hf rest (done ++ [n]) x (by rw [List.length_append, List.length_singleton]; omega) fun hl2 h => h3 ⟨h, fun h4 => by rw [hl2] at h4; exact absurd h4.2 (by decide)⟩
    · exact sound_bad _ _ (by decide)
theorem follow_sound (t : File) (ht : t.kind = 1) (last : Bool) : ∀ (k : Nat) (g : List ByteArray → WR), followK t last k = some g → ∀ todo, todo.length ≤ 64 → Sound last (g todo)
  | 0, g, h => by simp [followK] at h
  | k + 1, g, h => by
    intro todo h64
    simp only [followK, Option.some.injEq] at h
    subst h
    exact walkIn_sound last (followK t last k) (follow_sound t ht last k) todo [] t (by simpa using h64) fun _ => by omega
theorem walk_sound (t : File) (ht : t.kind = 1) (p : List ByteArray) (last : Bool) : Sound last (walkR t p last) := by
  unfold walkR
  split
  · rename_i h64
    exact walkIn_sound last (followK t last 40) (follow_sound t ht last 40) p [] t (by simpa using h64) fun _ => by omega
  · exact sound_bad _ _ (by decide)
theorem go_find {d x : File} {n : ByteArray} {r : List ByteArray} {y : File} (hs : SortF d) (h : goP d (n :: r) = (0, some y)) : ∃ x, d.kind = 1 ∧ d.files.find? (nameIs n) = some x ∧ goP x r = (0, some y) := by
  rw [goP_find hs] at h
  split at h
  · rename_i hk
    split at h
    · rename_i x hx
      exact ⟨x, hk, hx, h⟩
    · simp at h
  · simp at h
/-- What stands at a path of folders is walked to. -/
theorem walkIn_real (last : Bool) (follow : Option (List ByteArray → WR)) (y : File) (hy : y.kind ≠ 3 ∨ last = false) :
    ∀ (todo done : List ByteArray) (here : File), SortF here → goP here todo = (0, some y) → walkIn last follow todo done here = (done ++ todo, y, true, 0)
  | [], done, here, hs, h => by
    rw [goP] at h
    injection h with _ h
    injection h with h
    rw [walkIn, h, List.append_nil]
  | n :: rest, done, here, hs, h => by
    obtain ⟨x, hk, hx, hg⟩ := go_find (x := y) hs h
    have hsx := go_sort [n] here x 0 hs (go_one hs hk hx)
    rw [walkIn, if_pos hk, hx]
    simp only
    rw [if_neg, walkIn_real last follow y hy rest (done ++ [n]) x hsx hg, List.append_assoc]
    · rfl
    · rintro ⟨h3, h4⟩
      cases rest with
      | nil =>
        rw [goP] at hg
        injection hg with _ hg
        injection hg with hg
        subst hg
        rcases hy with hy | hy
        · exact hy h3
        · exact h4 ⟨rfl, hy⟩
      | cons m r =>
        obtain ⟨z, hz, _⟩ := go_find (x := y) hsx hg
        omega
/-- What does not stand, in a folder of folders, is walked to. -/
theorem walkIn_absent (last : Bool) (follow : Option (List ByteArray → WR)) (d : File) (n : ByteArray) (hd : d.kind = 1) (hn : d.files.find? (nameIs n) = none) :
    ∀ (todo done : List ByteArray) (here : File), SortF here → goP here todo = (0, some d) → walkIn last follow (todo ++ [n]) done here = (done ++ (todo ++ [n]), zeroF, false, 0)
  | [], done, here, hs, h => by
    rw [goP] at h
    injection h with _ h
    injection h with h
    subst h
    rw [List.nil_append, walkIn, if_pos hd, hn]
    simp
  | m :: rest, done, here, hs, h => by
    obtain ⟨x, hk, hx, hg⟩ := go_find (x := d) hs h
    have hsx := go_sort [m] here x 0 hs (go_one hs hk hx)
    rw [List.cons_append, walkIn, if_pos hk, hx]
    simp only
    rw [if_neg, walkIn_absent last follow d n hd hn rest (done ++ [m]) x hsx hg, List.append_assoc]
    · rfl
    · rintro ⟨h3, h4⟩
      cases rest with
      | nil =>
        rw [goP] at hg
        injection hg with _ hg
        injection hg with hg
        subst hg
        omega
      | cons a r =>
        obtain ⟨z, hz, _⟩ := go_find (x := d) hsx hg
        omega
theorem walk_again {t : File} (ht : rightT t = true) {p : List ByteArray} {last l2 : Bool} (h0 : (walkR t p last).2.2.2 = 0) (hk : (walkR t p last).2.2.1 = true → (walkR t p last).2.1.kind ≠ 3 ∨ l2 = false) : walkR t (walkR t p last).1 l2 = walkR t p last := by
  have h1 := walk_there t ht p last h0
  have h2 := ((walk_sound t (right_wrong ht).2 p last).2 h0).1
  obtain ⟨⟨q, x, is, k⟩, hr⟩ : ∃ r, walkR t p last = r := ⟨_, rfl⟩
  rw [hr] at h0 hk h1 h2 ⊢
  simp only at h0 hk h1 h2 ⊢
  subst h0
  show (if q.length ≤ 64 then walkIn l2 (followK t l2 40) q [] t else badW 3) = _
  rw [if_pos h2]
  cases is
  · obtain ⟨hx, q0, n, d, rfl, hg, hd, hn⟩ := h1.2 rfl
    rw [walkIn_absent l2 _ d n hd hn q0 [] t (right_sort ht) hg, hx]
    rfl
  · rw [walkIn_real l2 _ x (hk rfl) q [] t (right_sort ht) (h1.1 rfl)]
    rfl
/-- A path without links on it is its own real path. -/
theorem walkIn_plain (t : File) (ht : SortF t) (last : Bool) (follow : Option (List ByteArray → WR)) :
    ∀ (todo done : List ByteArray) (here : File), goP t done = (0, some here) → (∀ m, 1 ≤ m → m ≤ todo.length → ∀ x, goP t (done ++ todo.take m) = (0, some x) → x.kind = 3 → ¬ (m < todo.length ∨ last = true)) →
      (walkIn last follow todo done here).2.2.2 = 0 → (walkIn last follow todo done here).1 = done ++ todo
  | [], done, here, h, hp, hz => by rw [walkIn, List.append_nil]
  | n :: rest, done, here, h, hp, hz => by
    have hs := go_sort done t here 0 ht h
    rw [walkIn] at hz ⊢
    split at hz
    · rename_i hk
      rw [if_pos hk]
      split at hz
      · rename_i hn
        split at hz
        · rename_i h0
          rw [if_pos h0, List.length_eq_zero_iff.1 h0]
        · exact absurd hz (by show (31 : Int) ≠ 0; decide)
      · rename_i x hx
        have hg : goP t (done ++ [n]) = (0, some x) := (go_app done [n] t here h).trans (go_one hs hk hx)
        have hc : ¬ (x.kind = 3 ∧ ¬ (rest.length = 0 ∧ last = false)) := by
          rintro ⟨h3, h4⟩
          have h5 := hp 1 (Nat.le_refl _) (by simp) x (by simpa using hg) h3
          refine h4 ⟨?_, ?_⟩
          · have h6 : ¬ (1 < (n :: rest).length) := fun h7 => h5 (.inl h7)
            simp only [List.length_cons] at h6
            omega
          · cases hl : last
            · rfl
            · exact absurd (.inr hl) h5
        rw [if_neg hc] at hz ⊢
        rw [walkIn_plain t ht last follow rest (done ++ [n]) x hg (fun m h1 h2 y hy hy3 hh => hp (m + 1) (by omega) (by simp only [List.length_cons]; omega) y (by simpa using hy) hy3 (hh.imp (fun h => by simp only [List.length_cons]; omega) id)) hz, List.append_assoc]
        rfl
    · exact absurd hz (by show (32 : Int) ≠ 0; decide)
theorem walk_plain {t : File} (ht : rightT t = true) {p : List ByteArray} {last : Bool} (h0 : (walkR t p last).2.2.2 = 0) (hp : ∀ m, 1 ≤ m → m ≤ p.length → ∀ x, goP t (p.take m) = (0, some x) → x.kind = 3 → ¬ (m < p.length ∨ last = true)) : (walkR t p last).1 = p := by
  unfold walkR at h0 ⊢
  split at h0
  · rename_i h64
    rw [if_pos h64]
    exact walkIn_plain t (right_sort ht) last _ p [] t (by rw [goP]) (by simpa using hp) h0
  · exact absurd h0 (by show (3 : Int) ≠ 0; decide)
/-- Real's answers. -/
theorem real_bad {t : File} {p : List ByteArray} {last : Bool} (h : (realR t p last).2 ≠ 0) : (realR t p last).1 = [] := by
  unfold realR at h ⊢
  split
  · rename_i ht
    rw [if_pos ht] at h
    split
    · rename_i hp
      rw [if_pos hp] at h
      exact (walk_sound t (right_wrong ht).2 p last).1 h
    · rfl
  · rfl
theorem real_good {t : File} {p : List ByteArray} {last : Bool} (h : (realR t p last).2 = 0) : rightT t = true ∧ P.rightB p = true ∧ (walkR t p last).2.2.2 = 0 ∧ (realR t p last).1 = (walkR t p last).1 := by
  unfold realR at h ⊢
  split at h
  · rename_i ht
    rw [if_pos ht]
    split at h
    · rename_i hp
      rw [if_pos hp]
      exact ⟨ht, hp, h, rfl⟩
    · simp at h
  · simp at h
theorem get_some {t : File} {q : List ByteArray} (ht : rightT t = true) (h : (getR t q).2 = 0) : goP t q = (0, some (getR t q).1) := (get_zero h).2
theorem get_of_go {t y : File} {q : List ByteArray} (ht : rightT t = true) (h : goP t q = (0, some y)) : getR t q = (y, 0) := by
  unfold getR
  rw [if_pos ht, h]
theorem real_link {t : File} {p : List ByteArray} {last : Bool} (h : (realR t p last).2 = 0) (hg : (getR t (realR t p last).1).2 = 0) (h3 : (getR t (realR t p last).1).1.kind = 3) : last = false := by
  obtain ⟨ht, hp, h0, h1⟩ := real_good h
  rw [h1] at hg h3
  have h2 := get_some ht hg
  have h4 := walk_there t ht p last h0
  have h5 := ((walk_sound t (right_wrong ht).2 p last).2 h0).2
  cases hi : (walkR t p last).2.2.1
  · obtain ⟨_, q0, n, d, hq, hgd, hd, hn⟩ := h4.2 hi
    rw [hq, go_app q0 [n] t d hgd] at h2
    obtain ⟨x, _, hx, _⟩ := go_find (x := d) (go_sort q0 t d 0 (right_sort ht) hgd) h2
    rw [hn] at hx
    cases hx
  · have h6 := h4.1 hi
    rw [h6] at h2
    injection h2 with _ h2
    injection h2 with h2
    cases hl : last
    · rfl
    · exact absurd (h2 ▸ h3) (h5 hi hl)
theorem real_again {t : File} {p : List ByteArray} {last : Bool} (h : (realR t p last).2 = 0) (hr : P.rightB (realR t p last).1 = true) (hg : ¬ ((getR t (realR t p last).1).2 = 0 ∧ (getR t (realR t p last).1).1.kind = 3)) : realR t (realR t p last).1 true = ((realR t p last).1, 0) := by
  obtain ⟨ht, hp, h0, h1⟩ := real_good h
  have h4 := walk_there t ht p last h0
  rw [h1] at hr hg ⊢
  have h5 := walk_again (l2 := true) ht h0 (fun hi => .inl fun h3 => hg (by rw [get_of_go ht (h4.1 hi)]; exact ⟨rfl, h3⟩))
  have h6 : realR t (walkR t p last).1 true = ((walkR t (walkR t p last).1 true).1, (walkR t (walkR t p last).1 true).2.2.2) := by
    unfold realR
    rw [if_pos ht, if_pos hr]
  rw [h6, h5, h0]
theorem real_plain {t : File} {p : List ByteArray} {last : Bool} (h : (realR t p last).2 = 0) (hp : ∀ m, 1 ≤ m → m ≤ p.length → ¬ ((getR t (p.take m)).2 = 0 ∧ (getR t (p.take m)).1.kind = 3 ∧ (m < p.length ∨ last = true))) : (realR t p last).1 = p := by
  obtain ⟨ht, hpp, h0, h1⟩ := real_good h
  rw [h1]
  refine walk_plain ht h0 fun m h2 h3 x hx h4 h5 => hp m h2 h3 ?_
  rw [get_of_go ht hx]
  exact ⟨rfl, h4, h5⟩
end Go.Proofs.YthlcjjhfkldmhaaDoor.G
end
