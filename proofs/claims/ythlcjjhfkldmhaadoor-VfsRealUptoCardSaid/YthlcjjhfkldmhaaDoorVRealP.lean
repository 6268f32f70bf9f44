/- Where a real path leads: plain. -/
import Derived.Test.YthlcjjhfkldmhaaDoorVPut
import Derived.Test.YthlcjjhfkldmhaaDoorTTurn
import Derived.Test.YthlcjjhfkldmhaaDoorTDrop
set_option linter.unusedVariables false
set_option linter.unusedSimpArgs false
section
namespace Go.Proofs.YthlcjjhfkldmhaaDoor.G
open Go.RowKit Go.Lib Go.Proofs.YthlcjjhfkldmhaaDoorW.PrintWords Go.Proofs.YthlcjjhfkldmhaaDoorW.PrintLast
set_option linter.unusedVariables false

/-- Those that have come up, as bits. -/
def bq (n m : Nat) : Array Bool := ((List.range n).map (fun j => m.testBit j)).toArray
/-- The cells of a request, with what it tells. -/
def reqCells (x : Req) (Ap : Option Addr) (cp : Nat) (Ad : Option Addr) (cd : Nat) (tl : Told) : Array Value := #[.slice Ap x.p.length cp, .slice Ad x.dest.length cd, .string tl.data, .int .u8 tl.kind, .int .i64 tl.size]
/-- What a call leaves. -/
def OpPost (w : World) (g r : Nat) (O : Nat → Prop) (tb : Option Nat) (f : FsV) (x : Req) (Ap : Option Addr) (cp : Nat) (Ad : Option Addr) (cd : Nat) (res : File × Told × Int) (e : Ending) (w' : World) : Prop :=
  e = .returned (.int .i64 res.2.2) ∧ FsAt w' g (fun k => O k ∨ w.heap.size ≤ k ∧ k < w'.heap.size) tb { f with tree := res.1 } ∧ w'.heap[r]? = some (.cells (reqCells x Ap cp Ad cd res.2.1) 94 (0, 0)) ∧ Only (fun k => k = g ∨ k = r) w w'
theorem textF_bulk (d : ByteArray) : (textF d).bulk = 4 + d.size := by
  rw [bulk_eq]
  show 4 + 0 + d.size + 0 = _
  omega
theorem sumP_app (a b : List ByteArray) : P.sumP (a ++ b) = P.sumP a + P.sumP b := by simp [P.sumP, List.sum_append]
theorem sumP_cons (n : ByteArray) (b : List ByteArray) : P.sumP (n :: b) = 1 + (n.size : Int) + P.sumP b := by simp [P.sumP]
theorem sumP_one (n : ByteArray) : P.sumP [n] = 1 + (n.size : Int) := by simp [P.sumP]
theorem sumP_in {l : List ByteArray} {n : ByteArray} (h : n ∈ l) : (n.size : Int) + 1 ≤ P.sumP l := by
  induction l with
  | nil => cases h
  | cons a l ih =>
    have h1 := sumP_cons a l
    have h2 := P.sumP_nonneg l
    rcases List.mem_cons.1 h with rfl | h
    · omega
    · have := ih h; omega
theorem walkIn_sum (last : Bool) (follow : Option (List ByteArray → WR)) (S : Int) (hS : 0 ≤ S) (hf : ∀ g, follow = some g → ∀ todo, P.sumP (g todo).1 ≤ P.sumP todo + S) :
    ∀ (todo done : List ByteArray) (here : File), P.sumP (walkIn last follow todo done here).1 ≤ P.sumP done + P.sumP todo + S + 1024
  | [], done, here => by
    rw [walkIn]
    have : P.sumP ([] : List ByteArray) = 0 := rfl
    simp only
    omega
  | n :: rest, done, here => by
    have hd := P.sumP_nonneg done
    have hr := P.sumP_nonneg rest
    have hc := sumP_cons n rest
    have h0 : P.sumP ([] : List ByteArray) = 0 := rfl
    have hb : ∀ k, P.sumP (badW k).1 ≤ P.sumP done + P.sumP (n :: rest) + S + 1024 := fun k => by show P.sumP [] ≤ _; omega
    rw [walkIn]
    split
    · split
      · split
        · show P.sumP (done ++ [n]) ≤ _
          rw [sumP_app, sumP_one]
          omega
        · exact hb _
      · rename_i x hx
        split
        · split
          · exact hb _
          · rename_i g
            split
            · rename_i hz
              split
              · have h1 := hf g rfl ((P.normR done x.data).1 ++ rest)
                rw [sumP_app] at h1
                have h2 := P.norm_sum done x.data hz
                omega
              · exact hb _
            · exact hb _
        · have h1 := walkIn_sum last follow S hS hf rest (done ++ [n]) x
          rw [sumP_app, sumP_one] at h1
          omega
    · exact hb _
theorem follow_sum (t : File) (last : Bool) : ∀ (k : Nat) (g : List ByteArray → WR), followK t last k = some g → ∀ todo, P.sumP (g todo).1 ≤ P.sumP todo + 1024 * (k : Int)
  | 0, g, h => by simp [followK] at h
  | k + 1, g, h => by
    intro todo
    simp only [followK, Option.some.injEq] at h
    subst h
    have h1 := walkIn_sum last (followK t last k) (1024 * (k : Int)) (by omega) (follow_sum t last k) todo [] t
    have h0 : P.sumP ([] : List ByteArray) = 0 := rfl
    simp only
    omega
theorem walk_sum (t : File) (p : List ByteArray) (last : Bool) : P.sumP (walkR t p last).1 ≤ P.sumP p + 41984 := by
  have h0 : P.sumP ([] : List ByteArray) = 0 := rfl
  have hp := P.sumP_nonneg p
  unfold walkR
  split
  · have h1 := walkIn_sum last (followK t last 40) (1024 * (40 : Nat)) (by omega) (follow_sum t last 40) p [] t
    omega
  · show P.sumP [] ≤ _
    omega
theorem walkIn_bulk (last : Bool) (follow : Option (List ByteArray → WR)) (b : Nat) (hf : ∀ g, follow = some g → ∀ todo, (g todo).2.1.bulk ≤ b + 4) :
    ∀ (todo done : List ByteArray) (here : File), here.bulk ≤ b → (walkIn last follow todo done here).2.1.bulk ≤ b + 4
  | [], done, here, h => by
    rw [walkIn]
    simp only
    omega
  | n :: rest, done, here, h => by
    have hz := zero_bulk4
    have hb : ∀ k, (badW k).2.1.bulk ≤ b + 4 := fun k => by show zeroF.bulk ≤ _; omega
    rw [walkIn]
    split
    · split
      · split
        · show zeroF.bulk ≤ _; omega
        · exact hb _
      · rename_i x hx
        split
        · split
          · exact hb _
          · rename_i g
            split
            · split
              · exact hf g rfl _
              · exact hb _
            · exact hb _
        · have h1 := bulk_child (List.mem_of_find?_eq_some hx)
          exact walkIn_bulk last follow b hf rest (done ++ [n]) x (by omega)
    · exact hb _
theorem follow_bulk (t : File) (last : Bool) : ∀ (k : Nat) (g : List ByteArray → WR), followK t last k = some g → ∀ todo, (g todo).2.1.bulk ≤ t.bulk + 4
  | 0, g, h => by simp [followK] at h
  | k + 1, g, h => by
    intro todo
    simp only [followK, Option.some.injEq] at h
    subst h
    exact walkIn_bulk last (followK t last k) t.bulk (follow_bulk t last k) todo [] t (Nat.le_refl _)
theorem walk_bulk (t : File) (p : List ByteArray) (last : Bool) : (walkR t p last).2.1.bulk ≤ t.bulk + 4 := by
  have hz := zero_bulk4
  unfold walkR
  split
  · exact walkIn_bulk last (followK t last 40) t.bulk (follow_bulk t last 40) p [] t (Nat.le_refl _)
  · show zeroF.bulk ≤ _; omega
end Go.Proofs.YthlcjjhfkldmhaaDoor.G
end
section
section
namespace Go.Proofs.YthlcjjhfkldmhaaDoor.G
open Go.RowKit Go.Lib Go.Proofs.YthlcjjhfkldmhaaDoorW.PrintWords Go.Proofs.YthlcjjhfkldmhaaDoorW.PrintLast
set_option linter.unusedVariables false
set_option linter.unusedSimpArgs false

theorem right_wrong {t : File} (h : rightT t = true) : wrongN t.bulk t [] = none ∧ t.kind = 1 := by
  unfold rightT checkR at h
  split at h
  · rename_i hk
    refine ⟨?_, hk.1⟩
    cases hw : wrongN t.bulk t [] with
    | none => rfl
    | some b => rw [hw] at h; simp [checkO] at h
  · simp at h
end Go.Proofs.YthlcjjhfkldmhaaDoor.G
end
section
namespace Go.Proofs.YthlcjjhfkldmhaaDoor.G
open Go.RowKit Go.Lib Go.Proofs.YthlcjjhfkldmhaaDoorW.PrintWords Go.Proofs.YthlcjjhfkldmhaaDoorW.PrintLast
set_option linter.unusedVariables false
set_option linter.unusedSimpArgs false

/-- What every walk's answer says of itself. -/
def Sound (last : Bool) (r : WR) : Prop := (r.2.2.2 ≠ 0 → r.1 = []) ∧ (r.2.2.2 = 0 → r.1.length ≤ 64 ∧ (r.2.2.1 = true → last = true → r.2.1.kind ≠ 3))
theorem sound_bad (last : Bool) (k : Int) (hk : k ≠ 0) : Sound last (badW k) := ⟨fun _ => rfl, fun h => absurd h hk⟩
theorem walkIn_sound (last : Bool) (follow : Option (List ByteArray → WR)) (hf : ∀ g, follow = some g → ∀ todo, todo.length ≤ 64 → Sound last (g todo)) :
    ∀ (todo done : List ByteArray) (here : File), done.length + todo.length ≤ 64 → (last = true → here.kind ≠ 3) → Sound last (walkIn last follow todo done here)
  | [], done, here, hl, hk => by
    rw [walkIn]
    exact ⟨fun h => absurd rfl h, fun _ => And.intro (by simpa using hl) (fun _ => hk)⟩
  | n :: rest, done, here, hl, hk => by
    simp only [List.length_cons] at hl
    rw [walkIn]
    split
    · split
      · split
        · rename_i h0
          exact ⟨fun h => absurd rfl h, fun _ => And.intro (by rw [List.length_append, List.length_singleton]; omega) (fun h => Bool.noConfusion h)⟩
        · exact sound_bad _ _ (by decide)
      · rename_i x hx
        split
        · split
          · exact sound_bad _ _ (by decide)
          · rename_i g
            split
            · split
              · rename_i h64
                exact hf g rfl _ h64
              · exact sound_bad _ _ (by decide)
            · rename_i hz
              exact sound_bad _ _ hz
        · rename_i h3
          exact walkIn_sound last follow hf rest (done ++ [n]) x (by rw [List.length_append, List.length_singleton]; omega) fun hl2 h => h3 ⟨h, fun h4 => by rw [hl2] at h4; exact absurd h4.2 (by decide)⟩
    · exact sound_bad _ _ (by decide)
theorem follow_sound (t : File) (ht : t.kind = 1) (last : Bool) : ∀ (k : Nat) (g : List ByteArray → WR), followK t last k = some g → ∀ todo, todo.length ≤ 64 → Sound last (g todo)
  | 0, g, h => by simp [followK] at h
  | k + 1, g, h => by
    intro todo h64
    simp only [followK, Option.some.injEq] at h
    subst h
    exact walkIn_sound last (followK t last k) (follow_sound t ht last k) todo [] t (by simpa using h64) fun _ => by omega
theorem walk_sound (t : File) (ht : t.kind = 1) (p : List ByteArray) (last : Bool) : Sound last (walkR t p last) := by
  unfold walkR
  split
  · rename_i h64
    exact walkIn_sound last (followK t last 40) (follow_sound t ht last 40) p [] t (by simpa using h64) fun _ => by omega
  · exact sound_bad _ _ (by decide)
/-- Real's answers. -/
theorem real_bad {t : File} {p : List ByteArray} {last : Bool} (h : (realR t p last).2 ≠ 0) : (realR t p last).1 = [] := by
  unfold realR at h ⊢
  split
  · rename_i ht
    rw [if_pos ht] at h
    split
    · rename_i hp
      rw [if_pos hp] at h
      exact (walk_sound t (right_wrong ht).2 p last).1 h
    · rfl
  · rfl
theorem real_good {t : File} {p : List ByteArray} {last : Bool} (h : (realR t p last).2 = 0) : rightT t = true ∧ P.rightB p = true ∧ (walkR t p last).2.2.2 = 0 ∧ (realR t p last).1 = (walkR t p last).1 := by
  unfold realR at h ⊢
  split at h
  · rename_i ht
    rw [if_pos ht]
    split at h
    · rename_i hp
      rw [if_pos hp]
      exact ⟨ht, hp, h, rfl⟩
    · simp at h
  · simp at h
end Go.Proofs.YthlcjjhfkldmhaaDoor.G
end
end
