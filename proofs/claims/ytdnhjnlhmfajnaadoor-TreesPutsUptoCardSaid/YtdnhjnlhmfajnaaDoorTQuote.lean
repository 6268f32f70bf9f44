/- lines.Quote, over told's contract. -/
import Derived.Test.YtdnhjnlhmfajnaaDoorTBuilder
namespace Go.Proofs.YtdnhjnlhmfajnaaDoor.G
open Go.RowKit Go.Lib Go.Proofs.YtdnhjnlhmfajnaaDoorW.PrintWords Go.Proofs.YtdnhjnlhmfajnaaDoorW.PrintLast
set_option linter.unusedVariables false

def quoteB (told : UInt8 → List UInt8) (b : UInt8) : List UInt8 := if b = 34 then [92, 34] else told b
def quoteL (told : UInt8 → List UInt8) (l : List UInt8) : List UInt8 := (l.map (quoteB told)).flatten
theorem quote_take (told : UInt8 → List UInt8) (s : ByteArray) (k : Nat) (h : k < s.size) : quoteL told (s.data.toList.take (k + 1)) = quoteL told (s.data.toList.take k) ++ quoteB told s[k] := by
  have hk : k < s.data.toList.length := by rw [Array.length_toList]; exact h
  unfold quoteL
  rw [List.take_succ_eq_append_getElem hk, List.map_append, List.flatten_append]
  simp only [List.map_cons, List.map_nil, List.flatten_cons, List.flatten_nil, List.append_nil]
  rfl
theorem quote_len (told : UInt8 → List UInt8) (hn : ∀ b, (told b).length ≤ 4) (l : List UInt8) : (quoteL told l).length ≤ 4 * l.length := by
  induction l with
  | nil => simp [quoteL]
  | cons x l ih =>
    have h1 : (quoteB told x).length ≤ 4 := by
      unfold quoteB
      split
      · simp
      · exact hn x
    simp only [quoteL, List.map_cons, List.flatten_cons, List.length_append, List.length_cons] at ih ⊢
    omega

theorem built_below {B b : Nat} {l : List UInt8} {w w1 : World} (h : Built B b l w) (hb : Below w.heap.size w w1) : Built B b l w1 := by
  rcases h with ⟨hB, v, hk, ho, hne⟩ | ⟨hB, v, hk, ho, hne⟩
  · exact .inl ⟨hB, v, (hb.block b (blk_lt hk)).trans hk, pw_own_below ho hb, hne⟩
  · exact .inr ⟨hB, v, (hb.block b (blk_lt hk)).trans hk, pw_own_below ho hb, hne⟩

set_option maxHeartbeats 8000000 in
set_option maxRecDepth 100000 in
theorem quote_calls (told : UInt8 → List UInt8) (hn : ∀ b, (told b).length ≤ 4) (s : ByteArray) (w : World) (hs : s.size ≤ 1099511627776)
    (hT : Hid (∀ (x : UInt8) W, Below w.heap.size w W → Calls Tryd.prog 58 #[.int .u8 x.toNat] W fun e w' => e = .returned (.string ⟨(told x).toArray⟩) ∧ Below W.heap.size W w')) :
    Calls Tryd.prog 32 #[.string s] w fun e w' => e = .returned (.string ⟨(34 :: quoteL told s.data.toList ++ [34]).toArray⟩) ∧ Below w.heap.size w w' := by
  have h0 : Built w.heap.size w.heap.size [] (w.alloc (.cells #[.pointer none, .slice none 0 0] 56)) := .inl ⟨Nat.le_refl _, .slice none 0 0, blk_new w _, own_nil _ _ _ _, by simp [Value.ownBlock]⟩
  have H0 := Lib.hid (writeByte_calls _ _ [] 34 _ h0 (by simp) (by simp))
  have hba := Lib.hid ((Below.refl w.heap.size w).alloc (Nat.le_refl _) (.cells #[.pointer none, .slice none 0 0] 56))
  clear h0
  go_enter Tryd.func32, Tryd.ntmps32
  go_wp2_with fail
  refine H0.out.mono ?_
  rintro e w1 ⟨rfl, hB1, hb1⟩
  have HB1 := Lib.hid hB1
  have hb1' := hba.out.trans hb1
  clear hB1 hb1 H0 hba
  go_wp2_with fail
  go_loopw [8] (fun i wr => ∃ k : Nat, k ≤ s.size ∧ i = .int .i64 k ∧ Below w.heap.size w wr ∧ Hid (Built w.heap.size w.heap.size (34 :: quoteL told (s.data.toList.take k)) wr)) (fun i _ => s.size - (RowKit.intOf i).toNat)
  case atStart => exact ⟨0, by omega, rfl, hb1', HB1⟩
  case round =>
    clear HB1 hb1'
    obtain ⟨k, hk, rfl, hb, HB⟩ := hrel
    have hbs := hb.size
    have hql := quote_len told hn (s.data.toList.take k)
    rw [List.length_take] at hql
    by_cases hlt : k < s.size
    · have hqt := quote_take told s k hlt
      obtain ⟨x, hx⟩ : ∃ x, s[k]'hlt = x := ⟨_, rfl⟩
      rw [hx] at hqt
      have HQT := Lib.hid hqt
      have hlen : (34 :: quoteL told (s.data.toList.take k)).length ≤ 8796093022208 := by simp only [List.length_cons]; omega
      clear hqt hql
      generalize quoteL told (s.data.toList.take k) = pre at *
      have g1 : (k : Int) < (s.size : Int) := by omega
      by_cases h34 : x = 34
      · subst h34
        have HQ2 : quoteB told 34 = [92, 34] := by simp [quoteB]
        rw [HQ2] at HQT
        clear HQ2
        have W1 := Lib.hid (writeByte_calls _ _ (34 :: pre) 92 wr HB.out (by omega) hbs)
        go_wp2_with fail
        refine W1.out.mono ?_
        rintro e w2 ⟨rfl, hB2, hb2⟩
        have hb2' := hb.trans hb2
        have W2 := Lib.hid (writeByte_calls _ _ (34 :: pre ++ [92]) 34 w2 hB2 (by simp only [List.length_append, List.length_cons, List.length_nil] at hlen ⊢; omega) hb2'.size)
        clear hB2 W1 hb2
        go_wp2_with fail
        refine W2.out.mono ?_
        rintro e w3 ⟨rfl, hB3, hb3⟩
        have HB3 : Hid (Built w.heap.size w.heap.size (34 :: quoteL told (s.data.toList.take (k + 1))) w3) := Lib.hid (by rw [HQT.out]; simpa using hB3)
        have hb3' := hb2'.trans hb3
        clear hB3 W2 hb3
        go_wp2_with fail
        go_roundw
        case rel => exact ⟨k + 1, by omega, by go_num, hb3', HB3⟩
        case measure => simp [RowKit.intOf]; omega
      · have hne : ((x.toNat : Int) == 34) = false := by
          rw [beq_eq_false_iff_ne]; intro h; exact h34 (UInt8.toNat_inj.1 (by exact_mod_cast h))
        have HQ2 : quoteB told x = told x := by simp [quoteB, h34]
        rw [HQ2] at HQT
        clear HQ2 h34
        have HTX := Lib.hid (hT.out x wr hb)
        have hnx := hn x
        go_wp2_with fail
        refine HTX.out.mono ?_
        rintro e w2 ⟨rfl, hb2⟩
        have hb2' := bstep hb hbs hb2
        have hB2 : Built w.heap.size w.heap.size (34 :: pre) w2 := built_below HB.out hb2
        have W2 := Lib.hid (writeString_calls _ _ (34 :: pre) ⟨(told x).toArray⟩ w2 hB2 (by simp [ByteArray.size]; simp only [List.length_cons] at hlen; omega) hb2'.size)
        clear hB2 HTX hb2 hnx
        go_wp2_with fail
        refine W2.out.mono ?_
        rintro e w3 ⟨rfl, hB3, hb3⟩
        have HB3 : Hid (Built w.heap.size w.heap.size (34 :: quoteL told (s.data.toList.take (k + 1))) w3) := Lib.hid (by rw [HQT.out]; simpa using hB3)
        have hb3' := hb2'.trans hb3
        clear hB3 W2 hb3
        go_wp2_with fail
        go_roundw
        case rel => exact ⟨k + 1, by omega, by go_num, hb3', HB3⟩
        case measure => simp [RowKit.intOf]; omega
    · obtain rfl : k = s.size := by omega
      have hq4 : (quoteL told s.data.toList).length ≤ 4 * s.size := Nat.le_trans (quote_len told hn _) (Nat.mul_le_mul_left 4 (by rw [Array.length_toList]; exact Nat.le_refl _))
      rw [List.take_of_length_le (by rw [Array.length_toList]; exact Nat.le_refl _)] at HB
      have W1 := Lib.hid (writeByte_calls _ _ (34 :: quoteL told s.data.toList) 34 wr HB.out (Nat.le_trans (Nat.succ_le_succ hq4) (by omega)) hbs)
      clear hlt hql hq4
      go_wp2_with fail
      refine W1.out.mono ?_
      rintro e w2 ⟨rfl, hB2, hb2⟩
      have hb2' := hb.trans hb2
      have W2 := Lib.hid (built_string _ _ _ w2 hB2 hb2'.size)
      clear hB2 W1 hb2
      go_wp2_with fail
      refine W2.out.mono ?_
      rintro e w3 ⟨rfl, hb3⟩
      have hb3' := hb2'.trans hb3
      go_wp2_with fail
      go_ret
      exact ⟨rfl, hb3'⟩
end Go.Proofs.YtdnhjnlhmfajnaaDoor.G
