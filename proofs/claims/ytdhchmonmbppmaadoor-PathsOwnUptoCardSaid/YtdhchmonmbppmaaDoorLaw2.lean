/- Plain laws of Relative, Parent, Join, Within and Compare: no program in sight. -/
import Derived.Test.YtdhchmonmbppmaaDoorLaw
namespace Go.Proofs.YtdhchmonmbppmaaDoor.G
open Go.Lib
set_option linter.unusedVariables false

/-! ### both -/
theorem both_take : ∀ a b : List ByteArray, a.take (both a b) = b.take (both a b)
  | [], b => by simp [both]
  | x :: a, [] => by simp [both]
  | x :: a, y :: b => by
    unfold both
    split
    · rename_i h
      subst h
      rw [List.take_succ_cons, List.take_succ_cons, both_take a b]
    · rfl
theorem both_prefix : ∀ p q : List ByteArray, both p q = q.length ↔ q <+: p
  | p, [] => by
    have : both p [] = 0 := by cases p <;> rfl
    simp [this]
  | [], y :: q => by simp [both]
  | x :: p, y :: q => by
    unfold both
    split
    · rename_i h
      subst h
      rw [List.length_cons, List.cons_prefix_cons]
      have := both_prefix p q
      constructor
      · intro h; exact ⟨rfl, this.1 (by omega)⟩
      · intro h; rw [this.2 h.2]
    · rename_i h
      constructor
      · intro h2; simp at h2
      · intro h2
        exact absurd (List.cons_prefix_cons.1 h2).1.symm h

/-! ### Relative -/
theorem dots_list : dots.toList = [46, 46] := toList_mk [46, 46]
theorem step_dots (a : List ByteArray) : stepAt a dots = a.dropLast := by simp [stepAt, dots_list]
theorem fold_dots (n : Nat) : ∀ a : List ByteArray, (List.replicate n dots).foldl stepAt a = a.take (a.length - n) := by
  induction n with
  | zero => intro a; simp
  | succ n ih =>
    intro a
    rw [List.replicate_succ, List.foldl_cons, step_dots, ih, List.length_dropLast, List.dropLast_eq_take, List.take_take]
    congr 1
    omega
theorem joinL_mem : ∀ (l : List ByteArray) (b : UInt8), b ∈ joinL l [47] → b = 47 ∨ ∃ x ∈ l, b ∈ x.data.toList
  | [], b, h => by simp [joinL, Lib.join_nil] at h
  | [x], b, h => by rw [joinL_one] at h; exact .inr ⟨x, List.mem_cons_self, h⟩
  | x :: y :: l, b, h => by
    rw [joinL_two] at h
    rcases List.mem_append.1 h with h | h
    · exact .inr ⟨x, List.mem_cons_self, h⟩
    · rcases List.mem_cons.1 h with h | h
      · exact .inl h
      · rcases joinL_mem (y :: l) b h with h | ⟨z, hz, h⟩
        · exact .inl h
        · exact .inr ⟨z, List.mem_cons_of_mem _ hz, h⟩
theorem joinL_head {x : ByteArray} {l : List ByteArray} (h : x.data.toList ≠ []) : (joinL (x :: l) [47]).head? = x.data.toList.head? := by
  cases l with
  | nil => rw [joinL_one]
  | cons y l => rw [joinL_two, head_app _ h]
theorem dots_data : dots.data.toList = [46, 46] := rfl
theorem relP_elems {a p : List ByteArray} (hp : ∀ x ∈ p, nameB x.data.toList = true) : ∀ x ∈ relP a p, x.data.toList ≠ [] ∧ longB x = false ∧ ∀ b ∈ x.data.toList, b ≠ 47 ∧ b ≠ 0 := by
  intro x hx
  unfold relP at hx
  rcases List.mem_append.1 hx with hx | hx
  · obtain rfl := (List.mem_replicate.1 hx).2
    refine ⟨by rw [dots_data]; simp, rfl, ?_⟩
    rw [dots_data]
    intro b hb
    rcases List.mem_cons.1 hb with rfl | hb
    · decide
    · obtain rfl := List.mem_singleton.1 hb
      decide
  · have := name_facts (hp x (List.drop_subset _ _ hx))
    refine ⟨?_, this.2.2.2.1, this.2.2.2.2⟩
    intro e
    have h1 := this.1
    rw [Lib.toList_data, e] at h1
    cases h1
theorem relP_fold {a p : List ByteArray} (hp : ∀ x ∈ p, nameB x.data.toList = true) : (relP a p).foldl stepAt a = p := by
  unfold relP
  have hk := both_le_left a p
  rw [List.foldl_append, fold_dots, foldl_names _ _ (fun x hx => hp x (List.drop_subset _ _ hx)), show a.length - (a.length - both a p) = both a p by omega, both_take, List.take_append_drop]
theorem there_norm {a p : List ByteArray} (ha : rightB a = true) (hp : rightB p = true) (h : (relR a p).2 = 0) : (normR a ⟨(relR a p).1.toArray⟩).1 = p ∧ (normR a ⟨(relR a p).1.toArray⟩).2.2 = 0 := by
  obtain ⟨hp1, hp2⟩ := right_iff.1 hp
  have hel := relP_elems (a := a) hp2
  have hfold := relP_fold (a := a) hp2
  unfold relR at h ⊢
  rw [ha, hp] at h ⊢
  simp only [Bool.and_self, if_true] at h ⊢
  by_cases h0 : relP a p = []
  · rw [if_pos h0]
    rw [h0, List.foldl_nil] at hfold
    have hparts : partsL ⟨#[46]⟩ = [⟨#[46]⟩] := rfl
    have hst : startL a ⟨#[46]⟩ = a := rfl
    have hstep : stepAt a ⟨#[46]⟩ = a := by
      have : (⟨#[46]⟩ : ByteArray).toList = [46] := toList_mk [46]
      simp [stepAt, this]
    have hok : NormOK a ⟨#[46]⟩ := by
      refine ⟨ha, by decide, by rw [show (⟨#[46]⟩ : ByteArray).toList = [46] from toList_mk [46]]; rfl, ?_, rfl, ?_⟩
      · rw [no_zero]
        intro b hb
        obtain rfl : b = 46 := by simpa using hb
        decide
      · rw [hst, hparts, List.foldl_cons, hstep, hfold]; exact hp1
    show (normR a ⟨#[46]⟩).1 = p ∧ (normR a ⟨#[46]⟩).2.2 = 0
    rw [normR_of hok]
    refine ⟨?_, rfl⟩
    show (partsL ⟨#[46]⟩).foldl stepAt (startL a ⟨#[46]⟩) = p
    rw [hst, hparts, List.foldl_cons, hstep, hfold]
    rfl
  · rw [if_neg h0] at h ⊢
    by_cases hlen : (joinL (relP a p) [47]).length ≤ 1024
    · rw [if_pos hlen] at h ⊢
      have hparts := partsL_join h0 (fun x hx b hb => ((hel x hx).2.2 b hb).1)
      obtain ⟨x, r, hxr⟩ : ∃ x r, relP a p = x :: r := by
        cases hr : relP a p with
        | nil => exact absurd hr h0
        | cons x r => exact ⟨x, r, rfl⟩
      have hx := hel x (by rw [hxr]; exact List.mem_cons_self)
      have hhead : (joinL (relP a p) [47]).head? ≠ some 47 := by
        rw [hxr, joinL_head hx.1]
        intro e
        exact (hx.2.2 47 (List.mem_of_mem_head? e)).1 rfl
      have hst : startL a ⟨(joinL (relP a p) [47]).toArray⟩ = a := by rw [startL, data_mk, if_neg hhead]
      have hok : NormOK a ⟨(joinL (relP a p) [47]).toArray⟩ := by
        refine ⟨ha, by rw [size_mk]; omega, ?_, ?_, ?_, ?_⟩
        · rw [toList_mk, hxr]
          have h2 := joinL_head (l := r) hx.1
          cases hj : joinL (x :: r) [47] with
          | nil =>
            rw [hj] at h2
            cases hd : x.data.toList with
            | nil => exact absurd hd hx.1
            | cons b l => rw [hd] at h2; cases h2
          | cons b l => rfl
        · rw [no_zero, data_mk]
          intro b hb
          rcases joinL_mem _ _ hb with rfl | ⟨y, hy, hb⟩
          · decide
          · exact ((hel y hy).2.2 b hb).2
        · rw [hparts]
          exact List.any_eq_false.2 (fun y hy => by rw [(hel y hy).2.1]; simp)
        · rw [hst, hparts, hfold]; exact hp1
      show (normR a ⟨(joinL (relP a p) [47]).toArray⟩).1 = p ∧ (normR a ⟨(joinL (relP a p) [47]).toArray⟩).2.2 = 0
      rw [normR_of hok]
      refine ⟨?_, rfl⟩
      show (partsL ⟨(joinL (relP a p) [47]).toArray⟩).foldl stepAt (startL a ⟨(joinL (relP a p) [47]).toArray⟩) = p
      rw [hst, hparts, hfold]
    · rw [if_neg hlen] at h
      cases h
theorem rel_right {a p : List ByteArray} (ha : rightB a = true) (hp : rightB p = true) : (relR a p).2 = 0 ∨ (relR a p).2 = 4 := by
  unfold relR
  rw [ha, hp]
  simp only [Bool.and_self, if_true]
  split
  · exact .inl rfl
  · split
    · exact .inl rfl
    · exact .inr rfl
theorem rel_zero {a p : List ByteArray} (h : (relR a p).2 = 0) : rightB a = true ∧ rightB p = true := by
  unfold relR at h
  cases h1 : rightB a && rightB p
  · rw [h1] at h; cases h
  · exact Bool.and_eq_true _ _ ▸ h1

/-! ### Parent and Join -/
theorem last_join {p : List ByteArray} (h : p ≠ []) : p.dropLast ++ [lastP p] = p := by
  have h1 := List.dropLast_concat_getLast h
  unfold lastP
  rw [List.getLastD_eq_getLast?, List.getLast?_eq_some_getLast h]
  exact h1
theorem right_dropLast {p : List ByteArray} (h : rightB p = true) : rightB p.dropLast = true := by
  obtain ⟨h1, h2⟩ := right_iff.1 h
  refine right_iff.2 ⟨?_, fun x hx => h2 x (List.dropLast_subset _ hx)⟩
  have := sumP_dropLast p
  unfold sizeP at *
  omega
theorem last_mem {p : List ByteArray} (h : p ≠ []) : lastP p ∈ p := by
  have h1 : lastP p ∈ p.dropLast ++ [lastP p] := List.mem_append_right _ (List.mem_singleton.2 rfl)
  rw [last_join h] at h1
  exact h1
theorem there_join {p : List ByteArray} (h : rightB p = true) (h0 : p ≠ []) : joinR p.dropLast (lastP p) = (p, 0) := by
  obtain ⟨h1, h2⟩ := right_iff.1 h
  unfold joinR
  rw [right_dropLast h, h2 _ (last_mem h0), last_join h0, if_pos h1]
  rfl
theorem within_parent (p : List ByteArray) : both p p.dropLast = p.dropLast.length := (both_prefix p p.dropLast).2 (List.dropLast_prefix p)
theorem not_within_parent {p : List ByteArray} (h : p ≠ []) : both p.dropLast p ≠ p.length := by
  intro e
  have := ((both_prefix _ _).1 e).length_le
  rw [List.length_dropLast] at this
  have h1 : 0 < p.length := List.length_pos_iff.2 h
  omega

/-! ### Compare -/
theorem cb_anti : ∀ a b : List UInt8, compareBytes a b = - compareBytes b a
  | [], [] => rfl
  | [], _ :: _ => rfl
  | _ :: _, [] => rfl
  | x :: a, y :: b => by
    have ih := cb_anti a b
    unfold compareBytes
    by_cases h1 : x < y
    · have h2 : ¬ y < x := by rw [UInt8.lt_iff_toNat_lt] at *; omega
      rw [if_pos h1, if_neg h2, if_pos h1]
    · by_cases h2 : y < x
      · rw [if_neg h1, if_pos h2, if_pos h2]
        rfl
      · rw [if_neg h1, if_neg h2, if_neg h2, if_neg h1]
        exact ih
theorem cb_zero : ∀ {a b : List UInt8}, compareBytes a b = 0 ↔ a = b
  | [], [] => by simp [compareBytes]
  | [], _ :: _ => by simp [compareBytes]
  | _ :: _, [] => by simp [compareBytes]
  | x :: a, y :: b => by
    have ih := cb_zero (a := a) (b := b)
    unfold compareBytes
    by_cases h1 : x < y
    · rw [if_pos h1]
      constructor
      · intro h; cases h
      · intro h; injection h with h3 _; rw [h3] at h1; exact absurd h1 (by rw [UInt8.lt_iff_toNat_lt]; omega)
    · by_cases h2 : y < x
      · rw [if_neg h1, if_pos h2]
        constructor
        · intro h; cases h
        · intro h; injection h with h3 _; rw [h3] at h2; exact absurd h2 (by rw [UInt8.lt_iff_toNat_lt]; omega)
      · rw [if_neg h1, if_neg h2, ih]
        have : x = y := by rw [UInt8.lt_iff_toNat_lt] at h1 h2; exact UInt8.toNat_inj.1 (by omega)
        simp [this]
theorem cb_trans : ∀ {a b c : List UInt8}, compareBytes a b ≤ 0 → compareBytes b c ≤ 0 → compareBytes a c ≤ 0
  | [], b, [], _, _ => by simp [compareBytes]
  | [], b, _ :: _, _, _ => by simp [compareBytes]
  | x :: a, [], c, h, _ => by simp [compareBytes] at h
  | x :: a, y :: b, [], _, h => by simp [compareBytes] at h
  | x :: a, y :: b, z :: c, h1, h2 => by
    have ih := cb_trans (a := a) (b := b) (c := c)
    unfold compareBytes at h1 h2 ⊢
    simp only [UInt8.lt_iff_toNat_lt] at *
    by_cases e1 : x.toNat < y.toNat
    · rw [if_pos e1] at h1
      by_cases e2 : y.toNat < z.toNat
      · rw [if_pos (by omega)]; decide
      · rw [if_neg e2] at h2
        by_cases e3 : z.toNat < y.toNat
        · rw [if_pos e3] at h2; exact absurd h2 (by decide)
        · rw [if_pos (by omega)]; decide
    · rw [if_neg e1] at h1
      by_cases e4 : y.toNat < x.toNat
      · rw [if_pos e4] at h1; exact absurd h1 (by decide)
      · rw [if_neg e4] at h1
        by_cases e2 : y.toNat < z.toNat
        · rw [if_pos (by omega)]; decide
        · rw [if_neg e2] at h2
          by_cases e3 : z.toNat < y.toNat
          · rw [if_pos e3] at h2; exact absurd h2 (by decide)
          · rw [if_neg e3] at h2
            rw [if_neg (by omega), if_neg (by omega)]
            exact ih h1 h2
theorem cb_range : ∀ a b : List UInt8, compareBytes a b = -1 ∨ compareBytes a b = 0 ∨ compareBytes a b = 1
  | [], [] => .inr (.inl rfl)
  | [], _ :: _ => .inl rfl
  | _ :: _, [] => .inr (.inr rfl)
  | x :: a, y :: b => by
    unfold compareBytes
    split
    · exact .inl rfl
    · split
      · exact .inr (.inr rfl)
      · exact cb_range a b

/-- paths.Compare. -/
def cmpP : List ByteArray → List ByteArray → Int
  | [], [] => 0
  | [], _ :: _ => -1
  | _ :: _, [] => 1
  | x :: a, y :: b => if x = y then cmpP a b else compareBytes x.data.toList y.data.toList
theorem cmpP_both : ∀ a b : List ByteArray, cmpP a b = if h : both a b < a.length ∧ both a b < b.length then compareBytes (a[both a b]'h.1).data.toList (b[both a b]'h.2).data.toList else compareInt a.length b.length
  | [], [] => by simp [cmpP, both, compareInt]
  | [], y :: b => by
    unfold cmpP
    rw [dif_neg (by simp), compareInt, if_pos (by simp)]
  | x :: a, [] => by
    unfold cmpP
    rw [dif_neg (by simp), compareInt, if_neg (by simp; omega), if_pos (by simp)]
  | x :: a, y :: b => by
    have ih := cmpP_both a b
    unfold cmpP
    by_cases h : x = y
    · rw [if_pos h, ih]
      have hb : both (x :: a) (y :: b) = both a b + 1 := by rw [both, if_pos h]
      by_cases h2 : both a b < a.length ∧ both a b < b.length
      · rw [dif_pos h2, dif_pos (by rw [hb]; simp only [List.length_cons]; omega)]
        simp only [hb, List.getElem_cons_succ]
      · rw [dif_neg h2, dif_neg (by rw [hb]; simp only [List.length_cons]; omega)]
        unfold compareInt
        simp only [List.length_cons]
        push_cast
        simp only [Int.add_lt_add_iff_right, gt_iff_lt]
    · rw [if_neg h]
      have hb : both (x :: a) (y :: b) = 0 := by rw [both, if_neg h]
      rw [dif_pos (by rw [hb]; simp)]
      simp only [hb, List.getElem_cons_zero]
theorem data_eq {x y : ByteArray} (h : x.data.toList = y.data.toList) : x = y := by
  apply ByteArray.ext
  exact Array.toList_inj.1 h
theorem cmp_anti : ∀ a b, cmpP a b = - cmpP b a
  | [], [] => rfl
  | [], _ :: _ => rfl
  | _ :: _, [] => rfl
  | x :: a, y :: b => by
    unfold cmpP
    by_cases h : x = y
    · rw [if_pos h, if_pos h.symm, cmp_anti a b]
    · rw [if_neg h, if_neg (fun e => h e.symm), cb_anti]
theorem cmp_zero : ∀ {a b}, cmpP a b = 0 ↔ a = b
  | [], [] => by simp [cmpP]
  | [], _ :: _ => by simp [cmpP]
  | _ :: _, [] => by simp [cmpP]
  | x :: a, y :: b => by
    unfold cmpP
    by_cases h : x = y
    · rw [if_pos h, cmp_zero]
      simp [h]
    · rw [if_neg h, cb_zero]
      constructor
      · intro e; exact absurd (data_eq e) h
      · intro e; injection e with e1 _; exact absurd e1 h
theorem cmp_trans : ∀ {a b c}, cmpP a b ≤ 0 → cmpP b c ≤ 0 → cmpP a c ≤ 0
  | [], b, [], _, _ => by simp [cmpP]
  | [], b, _ :: _, _, _ => by simp [cmpP]
  | x :: a, [], c, h, _ => by simp [cmpP] at h
  | x :: a, y :: b, [], _, h => by simp [cmpP] at h
  | x :: a, y :: b, z :: c, h1, h2 => by
    unfold cmpP at h1 h2 ⊢
    by_cases e1 : x = y
    · rw [if_pos e1] at h1
      subst e1
      by_cases e2 : x = z
      · rw [if_pos e2] at h2 ⊢
        exact cmp_trans h1 h2
      · rw [if_neg e2] at h2 ⊢
        exact h2
    · rw [if_neg e1] at h1
      by_cases e2 : y = z
      · subst e2
        rw [if_neg e1]
        exact h1
      · rw [if_neg e2] at h2
        have h3 := cb_trans h1 h2
        by_cases e3 : x = z
        · subst e3
          have h4 : compareBytes y.data.toList x.data.toList = - compareBytes x.data.toList y.data.toList := cb_anti _ _
          have h5 : compareBytes x.data.toList y.data.toList = 0 := by omega
          exact absurd (data_eq (cb_zero.1 h5)) e1
        · rw [if_neg e3]
          exact h3
theorem cmp_prefix : ∀ {q p : List ByteArray}, q <+: p → cmpP q p ≤ 0
  | [], [], _ => by simp [cmpP]
  | [], _ :: _, _ => by simp [cmpP]
  | x :: q, [], h => by simp at h
  | x :: q, y :: p, h => by
    obtain ⟨rfl, h2⟩ := List.cons_prefix_cons.1 h
    unfold cmpP
    rw [if_pos rfl]
    exact cmp_prefix h2
theorem cmp_range : ∀ a b, cmpP a b = -1 ∨ cmpP a b = 0 ∨ cmpP a b = 1
  | [], [] => .inr (.inl rfl)
  | [], _ :: _ => .inl rfl
  | _ :: _, [] => .inr (.inr rfl)
  | x :: a, y :: b => by
    unfold cmpP
    split
    · exact cmp_range a b
    · exact cb_range _ _
end Go.Proofs.YtdhchmonmbppmaaDoor.G
