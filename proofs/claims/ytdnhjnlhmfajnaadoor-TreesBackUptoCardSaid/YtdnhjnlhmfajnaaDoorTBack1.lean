/- A written line is read back: plain; no program in sight but for the types. -/
import Derived.Test.YtdnhjnlhmfajnaaDoorTGrow
namespace Go.Proofs.YtdnhjnlhmfajnaaDoor.G
open Go.RowKit Go.Lib Go.Proofs.YtdnhjnlhmfajnaaDoorW.PrintWords Go.Proofs.YtdnhjnlhmfajnaaDoorW.PrintLast
set_option linter.unusedVariables false

theorem octR_app : ∀ (k n : Nat) (l r : List UInt8) (v : Nat), octR k n l = some v → octR k n (l ++ r) = some v
  | 0, n, l, r, v, h => by rw [octR] at h ⊢; exact h
  | k + 1, n, [], r, v, h => by rw [octR] at h; cases h
  | k + 1, n, d :: l, r, v, h => by
    rw [octR] at h
    rw [List.cons_append, octR]
    split at h
    · rename_i hc
      rw [if_pos hc]
      exact octR_app k _ l r v h
    · cases h
theorem one_app {l r : List UInt8} {b : UInt8} {m : Nat} (h : oneL l = some (b, m)) : oneL (l ++ r) = some (b, m) := by
  cases l with
  | nil => cases h
  | cons c l =>
    unfold oneL at h
    rw [List.cons_append]
    unfold oneL
    simp only at h ⊢
    by_cases hc : c = 92
    · rw [if_pos hc] at h ⊢
      cases l with
      | nil => cases h
      | cons d l =>
        rw [List.cons_append]
        simp only at h ⊢
        by_cases hd : d = 34
        · rw [if_pos hd] at h ⊢
          exact h
        · rw [if_neg hd] at h ⊢
          cases he : escL d with
          | some b' => rw [he] at h; exact h
          | none =>
            rw [he] at h
            simp only at h ⊢
            obtain ⟨v, hv, h2⟩ := Option.map_eq_some_iff.1 h
            rw [← List.cons_append, octR_app 3 0 _ r v hv]
            exact congrArg some h2
    · rw [if_neg hc] at h ⊢
      exact h
set_option maxRecDepth 100000 in
theorem one_oct (b : UInt8) (h : toldB b = [92, o1 b, o2 b, o3 b]) : oneL [92, o1 b, o2 b, o3 b] = some (b, 4) := by
  have hf : fourB b.toNat = true := by unfold fourB; rw [UInt8.ofNat_toNat, h]; rfl
  have e1 := oct1 b
  have e2 := oct2 b
  have e3 := oct3 b
  have hb := b.toNat_lt
  have hn : escL (o1 b) = none ∧ o1 b ≠ 34 := by
    have h : ∀ n : Nat, n < 256 → escL (o1 (UInt8.ofNat n)) = none ∧ o1 (UInt8.ofNat n) ≠ 34 := by decide +kernel
    have := h b.toNat b.toNat_lt
    rwa [UInt8.ofNat_toNat] at this
  unfold oneL
  simp only [if_true]
  rw [if_neg hn.2, hn.1]
  simp only
  have g1 : 8 * 0 + ((o1 b).toNat - 48) = b.toNat / 64 := by omega
  have g2 : 8 * (b.toNat / 64) + ((o2 b).toNat - 48) = b.toNat / 8 := by omega
  have g3 : 8 * (b.toNat / 8) + ((o3 b).toNat - 48) = b.toNat := by omega
  rw [octR, g1, if_pos ⟨by omega, by omega, goes_yes hb rfl hf⟩, octR, g2, if_pos ⟨by omega, by omega, goes_yes hb rfl hf⟩, octR, g3, if_pos ⟨by omega, by omega, goes_yes hb (Nat.div_one _) hf⟩, octR]
  simp
set_option maxRecDepth 100000 in
theorem one_told (b : UInt8) : oneL (quoteB toldB b) = some (b, (quoteB toldB b).length) ∧ (quoteB toldB b).head? ≠ some 34 ∧ 10 ∉ quoteB toldB b := by
  have h : ∀ n : Nat, n < 256 → (toldB (UInt8.ofNat n) = [92, o1 (UInt8.ofNat n), o2 (UInt8.ofNat n), o3 (UInt8.ofNat n)] ∧ UInt8.ofNat n ≠ 34 ∧ 10 ∉ toldB (UInt8.ofNat n)) ∨ (oneL (quoteB toldB (UInt8.ofNat n)) = some (UInt8.ofNat n, (quoteB toldB (UInt8.ofNat n)).length) ∧ (quoteB toldB (UInt8.ofNat n)).head? ≠ some 34 ∧ 10 ∉ quoteB toldB (UInt8.ofNat n)) := by decide +kernel
  have := h b.toNat b.toNat_lt
  rw [UInt8.ofNat_toNat] at this
  rcases this with ⟨h1, h2, h3⟩ | h1
  · have hq : quoteB toldB b = toldB b := by unfold quoteB; rw [if_neg h2]
    rw [hq]
    refine ⟨?_, ?_, h3⟩
    · rw [h1]; exact one_oct b h1
    · rw [h1]; simp
  · exact h1
theorem unqW_quote : ∀ (bs r : List UInt8) (i : Nat) (out : List UInt8), unqW (quoteL toldB bs ++ 34 :: r) i out = some (out ++ bs, i + (quoteL toldB bs).length + 1)
  | [], r, i, out => by
    show unqW (34 :: r) i out = _
    rw [unqW, if_pos rfl]
    simp [quoteL]
  | b :: bs, r, i, out => by
    obtain ⟨h1, h2, _⟩ := one_told b
    have hq : quoteL toldB (b :: bs) = quoteB toldB b ++ quoteL toldB bs := by simp [quoteL]
    rw [hq]
    cases hc : quoteB toldB b with
    | nil => rw [hc] at h1; cases h1
    | cons c q =>
      rw [hc] at h1 h2
      have hc34 : c ≠ 34 := fun e => h2 (by rw [e]; rfl)
      rw [List.append_assoc, List.cons_append, unqW, if_neg hc34, ← List.cons_append, one_app h1]
      simp only [List.length_cons, Nat.add_sub_cancel]
      rw [List.drop_left, unqW_quote bs r]
      simp only [List.append_assoc, List.cons_append, List.nil_append, List.length_append, List.length_cons, Option.some.injEq, Prod.mk.injEq, true_and]
      omega
theorem mkS_list (l : List UInt8) : (mkS l).data.toList = l := rfl
theorem mkS_self (s : ByteArray) : mkS s.data.toList = s := by apply ByteArray.ext; simp [mkS]
theorem unq_quote (s : ByteArray) (r : List UInt8) : unq (mkS (quoteQ s ++ r)) = some (s.data.toList, (quoteQ s).length) := by
  unfold unq
  rw [mkS_list, quoteQ]
  simp only [List.cons_append, List.append_assoc, List.nil_append, if_true]
  rw [unqW_quote]
  simp only [List.nil_append, List.length_cons, List.length_append, List.length_nil, Option.some.injEq, Prod.mk.injEq, true_and]
  omega
theorem cutB_app {c : UInt8} : ∀ {l : List UInt8} (r : List UInt8), c ∉ l → cutB c (l ++ c :: r) = some (l, r)
  | [], r, _ => by simp [cutB]
  | b :: l, r, h => by
    rw [List.cons_append, cutB, if_neg (fun e => h (by rw [e]; exact List.mem_cons_self)), cutB_app r (fun e => h (List.mem_cons_of_mem _ e))]
    rfl
theorem cutB_no {c : UInt8} : ∀ {l : List UInt8}, c ∉ l → cutB c l = none
  | [], _ => rfl
  | b :: l, h => by rw [cutB, if_neg (fun e => h (by rw [e]; exact List.mem_cons_self)), cutB_no (fun e => h (List.mem_cons_of_mem _ e))]; rfl
theorem quote_no (s : ByteArray) : 10 ∉ quoteQ s := by
  unfold quoteQ quoteL
  simp only [List.cons_append, List.mem_cons, List.mem_append, List.mem_flatten, List.mem_map, List.not_mem_nil, or_false, not_or]
  refine ⟨by decide, ?_, by decide⟩
  rintro ⟨l, ⟨b, _, rfl⟩, hb⟩
  exact (one_told b).2.2 hb
/-- A line without its end. -/
def lineT (y : List ByteArray × File) : List UInt8 := (headS y.1 y.2.kind).data.toList ++ (if y.2.kind = 1 then [] else (tailS y.2.data).data.toList)
theorem lineT_end (y : List ByteArray × File) : lineB y = lineT y ++ [10] := rfl
theorem headS_list (q : List ByteArray) (k : Int) : (headS q k).data.toList = (wordS k).data.toList ++ 32 :: quoteQ (shownS q) := by
  simp [headS, ByteArray.data_append]
theorem tailS_list (d : ByteArray) : (tailS d).data.toList = 32 :: quoteQ d := by
  simp [tailS, ByteArray.data_append]
/-- A kind that is written and read. -/
def kindOk (k : Int) : Prop := k = 1 ∨ k = 2 ∨ k = 3
theorem word_no {k : Int} (h : kindOk k) : 32 ∉ (wordS k).data.toList ∧ 10 ∉ (wordS k).data.toList ∧ kindOf (wordS k) = k ∧ ∃ c r, (wordS k).data.toList = c :: r ∧ c ≠ 35 := by
  rcases h with rfl | rfl | rfl
  · exact ⟨by decide, by decide, by kernel_rfl, 100, [105, 114], rfl, by decide⟩
  · exact ⟨by decide, by decide, by kernel_rfl, 116, [101, 120, 116], rfl, by decide⟩
  · exact ⟨by decide, by decide, by kernel_rfl, 108, [105, 110, 107], rfl, by decide⟩
theorem line_no {y : List ByteArray × File} (h : kindOk y.2.kind) : 10 ∉ lineT y := by
  unfold lineT
  rw [headS_list, tailS_list]
  simp only [List.mem_append, List.mem_cons, not_or]
  refine ⟨⟨(word_no h).2.1, by decide, quote_no _⟩, ?_⟩
  split
  · simp
  · simp only [List.mem_cons, not_or]
    exact ⟨by decide, quote_no _⟩
theorem line_skip {y : List ByteArray × File} (h : kindOk y.2.kind) : skipB ⟨(lineT y).toArray⟩ = false := by
  obtain ⟨c, r, hw, hc⟩ := (word_no h).2.2.2
  have hl : ∃ r', lineT y = c :: r' := by
    unfold lineT
    rw [headS_list, hw]
    exact ⟨_, rfl⟩
  obtain ⟨r', hl⟩ := hl
  unfold skipB
  rw [hl, Lib.toList_data]
  simp [Lib.hasPrefix, List.isPrefixOf]
  exact fun e => hc e.symm
theorem read_line {y : List ByteArray × File} (h : kindOk y.2.kind) (hd : y.2.kind = 1 → y.2.data = ⟨#[]⟩) : readR ⟨(lineT y).toArray⟩ = ⟨y.2.kind, y.2.data, shownS y.1, 0⟩ := by
  obtain ⟨q, x⟩ := y
  simp only at h hd ⊢
  unfold readR
  rw [show (⟨(lineT (q, x)).toArray⟩ : ByteArray).data.toList = lineT (q, x) from rfl]
  unfold lineT
  simp only
  rw [headS_list, List.append_assoc, List.cons_append, cutB_app _ (word_no h).1]
  simp only
  rw [mkS_self, (word_no h).2.2.1]
  have hk0 : x.kind ≠ 0 := by rcases h with h | h | h <;> omega
  rw [if_neg hk0]
  unfold restR
  rw [unq_quote]
  simp only
  rw [List.drop_left]
  by_cases hk : x.kind = 1
  · rw [if_pos hk, if_pos hk, if_pos rfl, mkS_self, hk, hd hk]
  · rw [if_neg hk, if_neg hk, tailS_list]
    unfold dataR
    have hu := unq_quote x.data []
    rw [List.append_nil] at hu
    simp only [if_true]
    rw [hu]
    simp only
    rw [List.drop_length, if_pos rfl, mkS_self, mkS_self]
theorem lines_printed : ∀ (l : List (List ByteArray × File)), (∀ y ∈ l, kindOk y.2.kind) → linesP (printL l) = l.map fun y => (⟨(lineT y).toArray⟩, true)
  | [], _ => by rw [show printL [] = [] from rfl, lines_nil]; rfl
  | y :: l, h => by
    have h1 : printL (y :: l) = lineT y ++ 10 :: printL l := by simp [printL, lineT_end]
    rw [h1, lines_some (cutB_app _ (line_no (h y List.mem_cons_self))), lines_printed l fun z hz => h z (List.mem_cons_of_mem _ hz)]
    rfl
theorem shown_list : ∀ (q : List ByteArray), (shownS q).data.toList = (q.map fun n => 47 :: n.data.toList).flatten := by
  have h : ∀ (q : List ByteArray) (s : ByteArray), (q.foldl (fun s n => s ++ (⟨#[47]⟩ ++ n)) s).data.toList = s.data.toList ++ (q.map fun n => 47 :: n.data.toList).flatten := by
    intro q
    induction q with
    | nil => intro s; simp
    | cons n q ih => intro s; rw [List.foldl_cons, ih]; simp [ByteArray.data_append]
  intro q
  unfold shownS
  rw [h]
  rfl
theorem name_no47 {n : ByteArray} (h : nameB n.data.toList = true) : 47 ∉ n.data.toList := by
  intro hm
  unfold nameB at h
  simp only [Bool.and_eq_true, Bool.not_eq_true', List.any_eq_false] at h
  exact h.2 47 hm (by decide)
theorem cuts_shown : ∀ (q : List ByteArray) (n : ByteArray), (∀ m ∈ n :: q, nameB m.data.toList = true) → cutsP (n.data.toList ++ (q.map fun n => 47 :: n.data.toList).flatten) = n :: q
  | [], n, h => by
    simp only [List.map_nil, List.flatten_nil, List.append_nil]
    rw [cuts_none (cutB_no (name_no47 (h n List.mem_cons_self)))]

  | m :: q, n, h => by
    simp only [List.map_cons, List.flatten_cons, List.cons_append]
    rw [cuts_some (cutB_app _ (name_no47 (h n List.mem_cons_self))), cuts_shown q m fun z hz => h z (List.mem_cons_of_mem _ hz)]
theorem split_shown {q : List ByteArray} (h0 : q ≠ []) (h : ∀ n ∈ q, nameB n.data.toList = true) (hl : q.length ≤ 64) : splitR (shownS q) = (q, true) := by
  cases q with
  | nil => exact absurd rfl h0
  | cons n q =>
    unfold splitR
    rw [shown_list]
    simp only [List.map_cons, List.flatten_cons, List.cons_append, if_true]
    rw [cuts_shown q n h, if_pos (by unfold namesB; rw [List.all_eq_true]; exact h), decide_eq_true hl]
end Go.Proofs.YtdnhjnlhmfajnaaDoor.G
