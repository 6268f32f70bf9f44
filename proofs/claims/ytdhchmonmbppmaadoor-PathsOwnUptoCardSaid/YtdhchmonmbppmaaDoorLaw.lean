/- Plain laws of Normal: no program in sight. -/
import Derived.Test.YtdhchmonmbppmaaDoorNormal
namespace Go.Proofs.YtdhchmonmbppmaaDoor.G
open Go.Lib
set_option linter.unusedVariables false

/-! ### The pieces -/
theorem splitB_append (l r : List UInt8) : splitB (l ++ 47 :: r) = splitB l ++ splitB r := by
  induction l with
  | nil => simp [splitB]
  | cons b l ih =>
    rw [List.cons_append, splitB, splitB]
    split
    · rw [ih]; rfl
    · rw [ih]
      have := splitB_ne l
      cases h : splitB l with
      | nil => exact absurd h this
      | cons x t => rfl
theorem splitB_plain {l : List UInt8} (h : ∀ b ∈ l, b ≠ 47) : splitB l = [l] :=
  splitB_none (fun k e => h 47 (List.mem_of_getElem? e) rfl)
theorem splitB_mem : ∀ (l : List UInt8) (x : List UInt8), x ∈ splitB l → ∀ b ∈ x, b ≠ 47 ∧ b ∈ l
  | [], x, hx, b, hb => by
    simp [splitB] at hx
    subst hx
    cases hb
  | c :: l, x, hx, b, hb => by
    have ih := splitB_mem l
    unfold splitB at hx
    split at hx
    · rcases List.mem_cons.1 hx with rfl | hx
      · cases hb
      · have := ih x hx b hb
        exact ⟨this.1, List.mem_cons_of_mem _ this.2⟩
    · rename_i hc
      split at hx
      · rename_i h t hs
        rcases List.mem_cons.1 hx with rfl | hx
        · rcases List.mem_cons.1 hb with rfl | hb
          · exact ⟨hc, List.mem_cons_self⟩
          · have := ih h (by rw [hs]; exact List.mem_cons_self) b hb
            exact ⟨this.1, List.mem_cons_of_mem _ this.2⟩
        · have := ih x (by rw [hs]; exact List.mem_cons_of_mem _ hx) b hb
          exact ⟨this.1, List.mem_cons_of_mem _ this.2⟩
      · rename_i hs
        exact absurd hs (splitB_ne l)
theorem data_mk (l : List UInt8) : (⟨l.toArray⟩ : ByteArray).data.toList = l := by simp
theorem partsL_mem {s x : ByteArray} (h : x ∈ partsL s) : ∀ b ∈ x.data.toList, b ≠ 47 ∧ b ∈ s.data.toList := by
  obtain ⟨l, hl, rfl⟩ := List.mem_map.1 h
  intro b hb
  rw [data_mk] at hb
  exact splitB_mem _ l hl b hb
theorem partsL_ne (s : ByteArray) : partsL s ≠ [] := by
  unfold partsL
  intro h
  exact splitB_ne _ (List.map_eq_nil_iff.1 h)
theorem joinL_one (x : ByteArray) : joinL [x] [47] = x.data.toList := by simp [joinL, Lib.join_cons, joinTail]
theorem joinL_two (x y : ByteArray) (l : List ByteArray) : joinL (x :: y :: l) [47] = x.data.toList ++ 47 :: joinL (y :: l) [47] := by simp [joinL, Lib.join_cons, joinTail]
theorem splitB_join : ∀ (p : List ByteArray), p ≠ [] → (∀ x ∈ p, ∀ b ∈ x.data.toList, b ≠ 47) → splitB (joinL p [47]) = p.map (·.data.toList)
  | [], h, _ => absurd rfl h
  | [x], _, h => by rw [joinL_one, splitB_plain (h x List.mem_cons_self)]; rfl
  | x :: y :: l, _, h => by
    rw [joinL_two, splitB_append, splitB_plain (h x List.mem_cons_self), splitB_join (y :: l) (by simp) (fun z hz => h z (List.mem_cons_of_mem _ hz))]
    rfl
theorem map_mk (p : List ByteArray) : (p.map (·.data.toList)).map (fun l => (⟨l.toArray⟩ : ByteArray)) = p := by
  rw [List.map_map]
  conv => rhs; rw [← List.map_id p]
  apply List.map_congr_left
  intro x _
  exact mk_data x
theorem partsL_join {p : List ByteArray} (h0 : p ≠ []) (h : ∀ x ∈ p, ∀ b ∈ x.data.toList, b ≠ 47) : partsL ⟨(joinL p [47]).toArray⟩ = p := by
  rw [partsL, data_mk, splitB_join p h0 h, map_mk]
theorem partsL_cons (l : List UInt8) : partsL ⟨(47 :: l).toArray⟩ = ⟨#[]⟩ :: partsL ⟨l.toArray⟩ := by
  rw [partsL, partsL, data_mk, data_mk, splitB, if_pos rfl]
  rfl

/-! ### Names -/
theorem name_facts {x : ByteArray} (h : nameB x.data.toList = true) : x.toList.isEmpty = false ∧ (x.toList == [46]) = false ∧ (x.toList == [46, 46]) = false ∧ longB x = false ∧ (∀ b ∈ x.data.toList, b ≠ 47 ∧ b ≠ 0) := by
  unfold nameB at h
  simp only [Bool.and_eq_true, Bool.not_eq_true', decide_eq_true_iff, bne_iff_ne, List.any_eq_false, Bool.or_eq_true, beq_iff_eq] at h
  obtain ⟨⟨⟨⟨h1, h2⟩, h3⟩, h4⟩, h5⟩ := h
  rw [Lib.toList_data]
  refine ⟨h1, beq_eq_false_iff_ne.2 h3, beq_eq_false_iff_ne.2 h4, ?_, fun b hb => ?_⟩
  · unfold longB
    rw [decide_eq_false_iff_not, Lib.size_eq]
    omega
  · have := h5 b hb
    constructor
    · rintro rfl; simp at this
    · rintro rfl; simp at this
theorem name_of {x : ByteArray} (h1 : x.toList.isEmpty = false) (h2 : (x.toList == [46]) = false) (h3 : (x.toList == [46, 46]) = false) (h4 : longB x = false) (h5 : ∀ b ∈ x.data.toList, b ≠ 47 ∧ b ≠ 0) : nameB x.data.toList = true := by
  rw [Lib.toList_data] at h1 h2 h3
  unfold nameB
  unfold longB at h4
  have h6 := of_decide_eq_false h4
  rw [Lib.size_eq] at h6
  rw [beq_eq_false_iff_ne] at h2 h3
  simp only [Bool.and_eq_true, Bool.not_eq_true', decide_eq_true_iff, bne_iff_ne, List.any_eq_false, Bool.or_eq_true, beq_iff_eq]
  refine ⟨⟨⟨⟨h1, by omega⟩, h2⟩, h3⟩, fun b hb => ?_⟩
  have := h5 b hb
  rintro (h | h)
  · exact this.1 h
  · exact this.2 h
theorem stepAt_name {a : List ByteArray} {x : ByteArray} (h : nameB x.data.toList = true) : stepAt a x = a ++ [x] := by
  obtain ⟨h1, h2, h3, _, _⟩ := name_facts h
  simp [stepAt, h1, h2, h3]
theorem foldl_names : ∀ (p a : List ByteArray), (∀ x ∈ p, nameB x.data.toList = true) → p.foldl stepAt a = a ++ p
  | [], a, _ => by simp
  | x :: p, a, h => by
    rw [List.foldl_cons, stepAt_name (h x List.mem_cons_self), foldl_names p _ (fun y hy => h y (List.mem_cons_of_mem _ hy))]
    simp
theorem stepAt_all {a : List ByteArray} {x : ByteArray} (ha : ∀ y ∈ a, nameB y.data.toList = true) (h4 : longB x = false) (h5 : ∀ b ∈ x.data.toList, b ≠ 47 ∧ b ≠ 0) : ∀ y ∈ stepAt a x, nameB y.data.toList = true := by
  intro y hy
  unfold stepAt at hy
  split at hy
  · exact ha y hy
  · rename_i h
    simp only [Bool.or_eq_true, not_or, Bool.not_eq_true] at h
    split at hy
    · exact ha y (List.dropLast_subset _ hy)
    · rename_i h3
      simp only [Bool.not_eq_true] at h3
      rcases List.mem_append.1 hy with hy | hy
      · exact ha y hy
      · obtain rfl := List.mem_singleton.1 hy
        exact name_of h.1 h.2 h3 h4 h5
theorem foldl_all : ∀ (ps a : List ByteArray), (∀ y ∈ a, nameB y.data.toList = true) → (∀ x ∈ ps, longB x = false ∧ ∀ b ∈ x.data.toList, b ≠ 47 ∧ b ≠ 0) → ∀ y ∈ ps.foldl stepAt a, nameB y.data.toList = true
  | [], a, ha, _ => ha
  | x :: ps, a, ha, h => foldl_all ps _ (stepAt_all ha (h x List.mem_cons_self).1 (h x List.mem_cons_self).2) (fun y hy => h y (List.mem_cons_of_mem _ hy))

theorem right_iff {p : List ByteArray} : rightB p = true ↔ sizeP p ≤ 1024 ∧ ∀ x ∈ p, nameB x.data.toList = true := by
  unfold rightB
  rw [Bool.and_eq_true, decide_eq_true_iff, List.all_eq_true]

/-! ### Normal -/
structure NormOK (a : List ByteArray) (s : ByteArray) : Prop where
  right : rightB a = true
  size : (s.size : Int) ≤ 1024
  some : s.toList.isEmpty = false
  zero : decide (0 ≤ Lib.indexByte s.data.toList 0) = false
  short : (partsL s).any longB = false
  fits : sizeP ((partsL s).foldl stepAt (startL a s)) ≤ 1024
theorem normR_of {a : List ByteArray} {s : ByteArray} (h : NormOK a s) : normR a s = ((partsL s).foldl stepAt (startL a s), dirB ((partsL s).getLastD ⟨#[]⟩), 0) := by
  unfold normR
  rw [h.right, if_pos rfl, if_pos h.size, h.some, h.zero, h.short]
  simp only [Bool.or_self, Bool.false_eq_true, if_false]
  rw [if_pos h.fits]
theorem normR_cases (a : List ByteArray) (s : ByteArray) : NormOK a s ∨ ((normR a s).1 = [] ∧ (normR a s).2.1 = false ∧ ((normR a s).2.2 = 20 ∨ (normR a s).2.2 = 4)) := by
  by_cases h1 : rightB a = true
  · by_cases h2 : (s.size : Int) ≤ 1024
    · by_cases h3 : (s.toList.isEmpty || decide (0 ≤ Lib.indexByte s.data.toList 0)) = true
      · right
        unfold normR
        rw [if_pos h1, if_pos h2, if_pos h3]
        exact ⟨rfl, rfl, .inl rfl⟩
      · by_cases h4 : (partsL s).any longB = true
        · right
          unfold normR
          rw [if_pos h1, if_pos h2, if_neg h3, if_pos h4]
          exact ⟨rfl, rfl, .inl rfl⟩
        · by_cases h5 : sizeP ((partsL s).foldl stepAt (startL a s)) ≤ 1024
          · left
            simp only [Bool.or_eq_true, not_or, Bool.not_eq_true] at h3 h4
            exact ⟨h1, h2, h3.1, h3.2, h4, h5⟩
          · right
            unfold normR
            rw [if_pos h1, if_pos h2, if_neg h3, if_neg h4, if_neg h5]
            exact ⟨rfl, rfl, .inr rfl⟩
    · right
      unfold normR
      rw [if_pos h1, if_neg h2]
      exact ⟨rfl, rfl, .inr rfl⟩
  · right
    unfold normR
    rw [if_neg h1]
    exact ⟨rfl, rfl, .inl rfl⟩
theorem normOK_of_zero {a : List ByteArray} {s : ByteArray} (h : (normR a s).2.2 = 0) : NormOK a s := by
  rcases normR_cases a s with h1 | ⟨_, _, h2 | h2⟩
  · exact h1
  · rw [h] at h2; cases h2
  · rw [h] at h2; cases h2
theorem no_zero {s : ByteArray} : decide (0 ≤ Lib.indexByte s.data.toList 0) = false ↔ ∀ b ∈ s.data.toList, b ≠ 0 := by
  constructor
  · intro h b hb
    rintro rfl
    obtain ⟨k, hk⟩ := List.mem_iff_getElem?.1 hb
    have h1 := of_decide_eq_false h
    have h2 := Lib.indexByte_ge s.data.toList 0
    exact Lib.indexByte_none (show Lib.indexByte s.data.toList 0 = -1 by omega) k hk
  · intro h
    rw [decide_eq_false_iff_not]
    intro h1
    obtain ⟨o, ho⟩ : ∃ o : Nat, Lib.indexByte s.data.toList 0 = o := ⟨(Lib.indexByte s.data.toList 0).toNat, by omega⟩
    exact h 0 (List.mem_of_getElem? (Lib.indexByte_some ho).1) rfl
theorem start_all {a : List ByteArray} (s : ByteArray) (h : ∀ y ∈ a, nameB y.data.toList = true) : ∀ y ∈ startL a s, nameB y.data.toList = true := by
  unfold startL
  split
  · intro y hy; cases hy
  · exact h
theorem norm_right {a : List ByteArray} {s : ByteArray} (h : NormOK a s) : rightB ((partsL s).foldl stepAt (startL a s)) = true := by
  refine right_iff.2 ⟨h.fits, foldl_all _ _ (start_all s (right_iff.1 h.right).2) fun x hx => ⟨?_, fun b hb => ?_⟩⟩
  · have := List.any_eq_false.1 h.short x hx
    simpa using this
  · have h1 := partsL_mem hx b hb
    exact ⟨h1.1, no_zero.1 h.zero b h1.2⟩

/-! ### A path's own text leads to it -/
theorem textL_head (p : List ByteArray) : (textL p).head? = some 47 := by
  unfold textL
  split
  · rfl
  · rename_i h
    cases p with
    | nil => exact absurd rfl h
    | cons x p => rfl
theorem size_mk (l : List UInt8) : (⟨l.toArray⟩ : ByteArray).size = l.length := by simp [ByteArray.size]
theorem toList_mk (l : List UInt8) : (⟨l.toArray⟩ : ByteArray).toList = l := by rw [Lib.toList_data, data_mk]
theorem text_parts {p : List ByteArray} (h : ∀ x ∈ p, nameB x.data.toList = true) : ∃ l, partsL ⟨(textL p).toArray⟩ = ⟨#[]⟩ :: l ∧ (∀ x ∈ l, longB x = false) ∧ ∀ a, l.foldl stepAt a = a ++ p := by
  unfold textL
  split
  · rename_i h0
    subst h0
    refine ⟨[⟨#[]⟩], ?_, ?_, ?_⟩
    · rw [partsL_cons]; rfl
    · intro x hx
      obtain rfl := List.mem_singleton.1 hx
      rfl
    · intro a
      have : (⟨#[]⟩ : ByteArray).toList = [] := toList_mk []
      simp [stepAt, this]
  · rename_i h0
    rw [← joinL_tail h0, partsL_cons, partsL_join h0 (fun x hx b hb => ((name_facts (h x hx)).2.2.2.2 b hb).1)]
    exact ⟨p, rfl, fun x hx => (name_facts (h x hx)).2.2.2.1, fun a => foldl_names p a h⟩
theorem tailL_zero {p : List ByteArray} (h : ∀ x ∈ p, nameB x.data.toList = true) : ∀ b ∈ textL p, b ≠ 0 := by
  unfold textL
  split
  · intro b hb
    obtain rfl := List.mem_singleton.1 hb
    decide
  · intro b hb
    unfold tailL at hb
    obtain ⟨l, hl, hb⟩ := List.mem_flatten.1 hb
    obtain ⟨x, hx, rfl⟩ := List.mem_map.1 hl
    rcases List.mem_cons.1 hb with rfl | hb
    · decide
    · exact ((name_facts (h x hx)).2.2.2.2 b hb).2
theorem step_empty (a : List ByteArray) : stepAt a ⟨#[]⟩ = a := by
  have : (⟨#[]⟩ : ByteArray).toList = [] := toList_mk []
  simp [stepAt, this]
theorem once_text {p o : List ByteArray} (hp : rightB p = true) (ho : rightB o = true) : (normR o ⟨(textL p).toArray⟩).1 = p ∧ (normR o ⟨(textL p).toArray⟩).2.2 = 0 := by
  obtain ⟨h1, h2⟩ := right_iff.1 hp
  obtain ⟨l, hl1, hl2, hl3⟩ := text_parts h2
  have hst : startL o ⟨(textL p).toArray⟩ = [] := by rw [startL, data_mk, textL_head, if_pos rfl]
  have hf : (partsL ⟨(textL p).toArray⟩).foldl stepAt (startL o ⟨(textL p).toArray⟩) = p := by
    rw [hst, hl1, List.foldl_cons, step_empty, hl3]
    rfl
  have hok : NormOK o ⟨(textL p).toArray⟩ := by
    refine ⟨ho, ?_, ?_, ?_, ?_, ?_⟩
    · rw [size_mk, textL_len]; exact h1
    · rw [toList_mk]
      have := textL_head p
      cases ht : textL p with
      | nil => rw [ht] at this; cases this
      | cons b r => rfl
    · rw [no_zero, data_mk]
      exact tailL_zero h2
    · rw [hl1, List.any_cons]
      have : l.any longB = false := List.any_eq_false.2 (fun x hx => by rw [hl2 x hx]; simp)
      rw [this]
      rfl
    · rw [hf]; exact h1
  rw [normR_of hok]
  exact ⟨hf, rfl⟩
theorem once_slash {a o : List ByteArray} {s : ByteArray} (h : NormOK a s) (hs : s.data.toList.head? = some 47) (ho : rightB o = true) : normR o s = normR a s := by
  have e : startL o s = startL a s := by rw [startL, startL, if_pos hs, if_pos hs]
  have h2 : NormOK o s := ⟨ho, h.size, h.some, h.zero, h.short, by rw [e]; exact h.fits⟩
  rw [normR_of h, normR_of h2, e]

theorem head_app {l : List UInt8} (r : List UInt8) (h : l ≠ []) : (l ++ r).head? = l.head? := by
  cases l with
  | nil => exact absurd rfl h
  | cons b l => rfl
/-! ### One text behind the other -/
def behindT (s t : ByteArray) : ByteArray := s ++ ⟨#[47]⟩ ++ t
theorem behind_data (s t : ByteArray) : (behindT s t).data.toList = s.data.toList ++ 47 :: t.data.toList := by
  simp [behindT, ByteArray.data_append]
theorem behind_size (s t : ByteArray) : (behindT s t).size = s.size + 1 + t.size := by
  simp only [behindT, ByteArray.size_append]
  rfl
theorem behind_parts (s t : ByteArray) : partsL (behindT s t) = partsL s ++ partsL t := by
  rw [partsL, behind_data, splitB_append, List.map_append]
  rfl
theorem behind_law {a : List ByteArray} {s t : ByteArray} (h : NormOK a s) (ht : t.toList.isEmpty = false) (h47 : t.data.toList.head? ≠ some 47) (hsz : s.size + 1 + t.size ≤ 1024) :
    normR a (behindT s t) = normR (normR a s).1 t := by
  have hne : s.data.toList ≠ [] := by
    have := h.some
    rw [Lib.toList_data] at this
    intro e
    rw [e] at this
    cases this
  have hst : startL a (behindT s t) = startL a s := by
    unfold startL
    rw [behind_data, head_app _ hne]
  have hst2 : startL (normR a s).1 t = (normR a s).1 := by rw [startL, if_neg h47]
  have hq : (normR a s).1 = (partsL s).foldl stepAt (startL a s) := by rw [normR_of h]
  have hr : rightB (normR a s).1 = true := by rw [hq]; exact norm_right h
  have hfold : (partsL (behindT s t)).foldl stepAt (startL a (behindT s t)) = (partsL t).foldl stepAt (startL (normR a s).1 t) := by
    rw [hst2, hst, behind_parts, List.foldl_append, ← hq]
  have hlast : (partsL (behindT s t)).getLastD ⟨#[]⟩ = (partsL t).getLastD ⟨#[]⟩ := by
    rw [behind_parts, List.getLastD_eq_getLast?, List.getLastD_eq_getLast?, List.getLast?_append]
    cases hp : (partsL t).getLast? with
    | none => exact absurd (List.getLast?_eq_none_iff.1 hp) (partsL_ne t)
    | some x => rfl
  have hemp : (behindT s t).toList.isEmpty = false := by
    rw [Lib.toList_data, behind_data]
    cases hs : s.data.toList <;> rfl
  have hzero : decide (0 ≤ Lib.indexByte (behindT s t).data.toList 0) = decide (0 ≤ Lib.indexByte t.data.toList 0) := by
    cases hz : decide (0 ≤ Lib.indexByte t.data.toList 0)
    · rw [no_zero, behind_data]
      intro b hb
      rcases List.mem_append.1 hb with hb | hb
      · exact no_zero.1 h.zero b hb
      · rcases List.mem_cons.1 hb with rfl | hb
        · decide
        · exact no_zero.1 hz b hb
    · cases hz2 : decide (0 ≤ Lib.indexByte (behindT s t).data.toList 0)
      · have h1 := no_zero.1 hz2
        have h2 : decide (0 ≤ Lib.indexByte t.data.toList 0) = false := no_zero.2 (fun b hb => h1 b (by rw [behind_data]; exact List.mem_append_right _ (List.mem_cons_of_mem _ hb)))
        rw [h2] at hz
        cases hz
      · rfl
  have hlong : (partsL (behindT s t)).any longB = (partsL t).any longB := by
    rw [behind_parts, List.any_append, h.short]
    rfl
  have hs1 : ((behindT s t).size : Int) ≤ 1024 := by rw [behind_size]; omega
  have hs2 : (t.size : Int) ≤ 1024 := by omega
  rw [normR, normR, if_pos h.right, if_pos hs1, hemp, hzero, hlong, hfold, hlast, hr, if_pos rfl, if_pos hs2, ht]
theorem behind_long {a : List ByteArray} {s t : ByteArray} (h : NormOK a s) (hsz : ¬ s.size + 1 + t.size ≤ 1024) : (normR a (behindT s t)).2.2 = 4 := by
  rw [normR, if_pos h.right, if_neg (by rw [behind_size]; omega)]
end Go.Proofs.YtdhchmonmbppmaaDoor.G
