/- The reference's Text, Print, Parent, Join, Relative. -/
import Derived.Test.YtdhchmonmbppmaaRel
namespace Go.Proofs.Ytdhchmonmbppmaa.G
open Go.RowKit Go.Lib Go.Proofs.YtdhchmonmbppmaaW.PrintWords Go.Proofs.YtdhchmonmbppmaaW.PrintLast
set_option linter.unusedVariables false

theorem mk_of_data {S : ByteArray} {l : List UInt8} (h : S.data.toList = l) : S = ⟨l.toArray⟩ := by
  subst h
  apply ByteArray.ext
  simp
theorem data_append (a b : ByteArray) : (a ++ b).data.toList = a.data.toList ++ b.data.toList := by
  simp [ByteArray.data_append]
theorem tailL_take (l : List ByteArray) (k : Nat) (h : k < l.length) : tailL (l.take (k + 1)) = tailL (l.take k) ++ 47 :: l[k].data.toList := by
  unfold tailL
  rw [List.take_succ_eq_append_getElem h, List.map_append, List.flatten_append]
  simp

set_option maxHeartbeats 2000000 in
theorem rtext_calls (A : Option Addr) (c : Nat) (l : List ByteArray) (w : World) (hr : Kd.C Kd.string w A l.length l) (hc : l.length ≤ c) (hl : l.length ≤ 8796093022208) (hs : sumP l ≤ 1048576) :
    Calls Try.prog 24 #[.slice A l.length c] w fun e w' => e = .returned (.string ⟨(textL l).toArray⟩) ∧ w' = w := by
  by_cases h0 : l = []
  · subst h0
    go_enter Try.func24, Try.ntmps24
    go_wp2
    go_ret
    exact ⟨rfl, rfl⟩
  · have hz : ((l.length : Int) == 0) = false := beq_eq_false_iff_ne.2 (by intro h; exact h0 (List.length_eq_zero_iff.1 (by omega)))
    have HT := Lib.hid (show textL l = tailL l by rw [textL, if_neg h0])
    have HR := Lib.hid hr
    clear hr h0
    go_enter Try.func24, Try.ntmps24
    go_wp2
    go_loop [3, 4] (fun s i => ∃ (k : Nat) (S : ByteArray), k ≤ l.length ∧ i = .int .i64 k ∧ s = .string S ∧ Hid (S.data.toList = tailL (l.take k)) ∧ (S.size : Int) = sumP (l.take k)) (fun _ i => l.length - (RowKit.intOf i).toNat)
    case atStart => exact ⟨0, ⟨#[]⟩, by omega, rfl, rfl, Lib.hid (by show ([] : List UInt8) = _; simp [tailL]), by show ((0 : Nat) : Int) = _; simp [sumP]⟩
    case round =>
      obtain ⟨k, S, hk, rfl, rfl, HM, hm⟩ := hrel
      have h1 := sumP_take_le l k
      by_cases hlt : k < l.length
      · obtain ⟨ad, rfl, hx⟩ := Kd.at_string HR.out (k : Int) (by omega) (by omega)
        rw [Int.toNat_natCast] at hx
        have hd := sumP_take l k hlt
        have h2 := sumP_take_le l (k + 1)
        have he : rdOf ByteArray.empty l (k : Int) = l[k] := by simp [rdOf, hlt]
        rw [he] at hx
        have HM3 := Lib.hid (tailL_take l k hlt)
        clear he
        generalize l[k] = s at *
        have hb1 : (S.size : Int) + 1 ≤ 140737488355328 := by omega
        have hb2 : (S.size : Int) + 1 + s.size ≤ 140737488355328 := by omega
        have hm3 : ((S ++ ⟨#[47]⟩ ++ s).size : Int) = sumP (l.take (k + 1)) := by simp only [ByteArray.size_append]; have : (⟨#[47]⟩ : ByteArray).size = 1 := rfl; omega
        have HS := Lib.hid (show (S ++ ⟨#[47]⟩ ++ s).data.toList = tailL (l.take (k + 1)) by rw [data_append, data_append, HM.out, HM3.out]; simp)
        have hs1 : S.size ≤ 1048576 := by omega
        have hs2 : s.size ≤ 1048576 := by omega
        clear hd h2 hb1 hb2
        go_wp2
        go_round
        case rel => exact ⟨k + 1, _, by omega, by go_num, rfl, HS, hm3⟩
        case measure => simp [RowKit.intOf]; omega
      · obtain rfl : k = l.length := by omega
        go_wp2
        go_ret
        refine ⟨?_, rfl⟩
        have := HM.out
        rw [List.take_length, ← HT.out] at this
        rw [mk_of_data this]
        rfl

set_option maxHeartbeats 1000000 in
theorem rprint_calls (A : Option Addr) (c : Nat) (l : List ByteArray) (w : World) (hr : Kd.C Kd.string w A l.length l) (hc : l.length ≤ c) (hl : l.length ≤ 8796093022208) (hs : sumP l ≤ 140737488355328) :
    Calls Try.prog 10 #[.slice A l.length c] w fun e w' => e = .returned (.tuple #[.string ⟨(printR l).1.toArray⟩, .int .i64 (printR l).2]) ∧ w' = w := by
  have H1 := Lib.hid (fun W h => rright_calls A c l W h hc (by omega) hl)
  have HR := Lib.hid hr
  unfold printR
  cases h1 : rightB l
  · rw [h1] at H1
    clear h1 hr
    go_enter Try.func10, Try.ntmps10
    go_wp2_with (go_at_call 8; refine (H1.out _ HR.out).mono ?_; rintro e w1 ⟨rfl, hw⟩; rw [hw])
    go_ret2
    exact ⟨rfl, rfl⟩
  · rw [h1] at H1
    have hsz := rightB_sum h1
    have H2 := Lib.hid (fun W h => rtext_calls A c l W h hc hl (by omega))
    clear h1 hr hsz
    simp only [if_true]
    generalize textL l = T at *
    go_enter Try.func10, Try.ntmps10
    go_wp2_with (first | (go_at_call 8; refine (H1.out _ HR.out).mono ?_; rintro e w1 ⟨rfl, hw⟩; rw [hw]) | (go_at_call 24; refine (H2.out _ HR.out).mono ?_; rintro e w2 ⟨rfl, hw2⟩; rw [hw2]))
    go_ret2
    exact ⟨rfl, rfl⟩

/-! ### Parent -/
set_option maxHeartbeats 2000000 in
theorem rparent_walk (ad : Addr) (c n : Nat) (l : List ByteArray) (last : ByteArray) (w : World) (hc : n + 1 ≤ c) (hl : n ≤ 4398046511104)
    (hcl : ∀ W, Below w.heap.size w W → Calls Try.prog 4 #[.slice (some ad) n c] W fun e w' => ∃ v, e = .returned v ∧ Kd.R Kd.string 9 w' w.heap.size (fun _ => True) v l ∧ Below w.heap.size w w')
    (hcell : ∀ W, Below w.heap.size w W → W.cell? (ad.add n) = some (.string last)) :
    Calls Try.prog 14 #[.slice (some ad) (n + 1) c] w fun e w' => ∃ v, e = .returned (.tuple #[v, .string last, .bool true]) ∧ Kd.R Kd.string 9 w' w.heap.size (fun _ => True) v l ∧ Below w.heap.size w w' := by
  have hz : ((n : Int) + 1 == 0) = false := beq_eq_false_iff_ne.2 (by omega)
  have hcn : (n : Int) ≤ (c : Int) := by omega
  have hn1 : (n : Int) < (n : Int) + 1 := by omega
  have hwn : IntKind.i64.wrap (n : Int) = (n : Int) := IntWalk.i64_in _ (by omega)
  have HC := Lib.hid hcl
  have HX := Lib.hid hcell
  have hx0 := hcell w (Below.refl _ _)
  clear hcl hcell
  go_enter Try.func14, Try.ntmps14
  go_wp2
  go_region_with (go_at_call 4; refine (HC.out _ (bdrew (Below.refl _ _))).mono ?_; rintro e w1 ⟨v, rfl, ho, hb⟩; have hx := HX.out w1 hb)
  all_goals
    go_wp2
    go_ret3
    exact ⟨_, rfl, ho, hb⟩
theorem rparent_calls (A : Option Addr) (c : Nat) (l : List ByteArray) (w : World) (hr : Kd.C Kd.string w A l.length l) (hc : l.length ≤ c) (hl : l.length ≤ 4398046511104) :
    Calls Try.prog 14 #[.slice A l.length c] w fun e w' => ∃ v, e = .returned (.tuple #[v, .string (lastP l), .bool (!l.isEmpty)]) ∧ Kd.R Kd.string 9 w' w.heap.size (fun _ => True) v l.dropLast ∧ Below w.heap.size w w' := by
  rcases List.eq_nil_or_concat l with rfl | ⟨l', last, rfl⟩
  · have hz : (((0 : Nat) : Int) == 0) = true := rfl
    go_enter Try.func14, Try.ntmps14
    go_wp2
    go_ret3
    exact ⟨_, rfl, Kd.R_nil _ _ _ _ _, Below.refl _ _⟩
  · rw [List.concat_eq_append] at *
    have hlen : (l' ++ [last]).length = l'.length + 1 := by simp
    cases A with
    | none => have := C_none hr; simp at this
    | some ad =>
      have hcell : ∀ W, Below w.heap.size w W → W.cell? (ad.add l'.length) = some (.string last) := by
        intro W hb
        obtain ⟨ad', e, hx⟩ := Kd.at_string hr (l'.length : Int) (by omega) (by omega)
        cases e
        rw [Int.toNat_natCast] at hx
        rw [(hb.cell (World.block_lt_of_cell? w _ hx)).trans hx]
        simp [rdOf]
      have ht := C_take hr l'.length (by omega)
      rw [List.take_left'  rfl] at ht
      have := rparent_walk ad c l'.length l' last w (by omega) (by omega) (fun W hb => (rcopy_calls (some ad) c l' W (Kd.C_below ht hb) (by omega) (by omega)).mono fun e w' ⟨v, he, hR, hb2⟩ => ⟨v, he, Kd.R_lower hR hb.size, bstep hb hb.size hb2⟩) hcell
      rw [hlen]
      have he : (l' ++ [last]).isEmpty = false := by cases l' <;> rfl
      rw [he]
      simpa [lastP] using this

/-! ### Join -/
set_option maxHeartbeats 4000000 in
set_option maxRecDepth 100000 in
theorem rjoin_calls (A : Option Addr) (c : Nat) (l : List ByteArray) (name : ByteArray) (w : World) (hr : Kd.C Kd.string w A l.length l) (hc : l.length ≤ c) (hl : l.length ≤ 4398046511104) (hs : sumP l ≤ 140737488355328) (hn : name.size ≤ 140737488355328) :
    Calls Try.prog 17 #[.slice A l.length c, .string name] w fun e w' => ∃ v, e = .returned (.tuple #[v, .int .i64 (joinR l name).2]) ∧ Kd.R Kd.string 9 w' w.heap.size (fun _ => True) v (joinR l name).1 ∧ Below w.heap.size w w' := by
  have H1 := Lib.hid (fun W h => rright_calls A c l W h hc (by omega) (by omega))
  have H2 := Lib.hid (fun W => rname_calls name W)
  have H3 := Lib.hid (fun W h => rcopy_calls A c l W h hc (by omega))
  have hsum : sumP (l ++ [name]) ≤ 4611686018427387904 := by rw [sumP_snoc]; omega
  have H4 := Lib.hid (fun A' c' W h hc' => rsize_calls A' c' (l ++ [name]) W h hc' hsum (by simp; omega))
  have HG := Lib.hid (rsize_gt (l ++ [name]))
  have HR := Lib.hid hr
  have HQ := Lib.hid (show joinR l name = if rightB l && nameB name.data.toList then (if sizeP (l ++ [name]) ≤ 1024 then (l ++ [name], 0) else ([], 4)) else ([], 20) from rfl)
  clear hr hs hn hsum
  generalize joinR l name = Q at *
  cases h1 : rightB l
  · rw [h1] at H1
    have HQ2 := Lib.hid (show Q = ([], 20) by rw [HQ.out, h1]; rfl)
    clear HQ h1
    generalize nameB name.data.toList = b2 at *
    go_enter Try.func17, Try.ntmps17
    go_wp2_with (first | (go_at_call 8; refine (H1.out _ HR.out).mono ?_; rintro e w1 ⟨rfl, hw⟩; rw [hw]) | (go_at_call 6; refine (H2.out _).mono ?_; rintro e w2 ⟨rfl, hw2⟩; rw [hw2]))
    go_ret2
    exact ⟨_, by rw [HQ2.out]; rfl, by rw [HQ2.out]; exact Kd.R_nil _ _ _ _ _, Below.refl _ _⟩
  · cases h2 : nameB name.data.toList
    · rw [h1] at H1
      rw [h2] at H2
      have HQ2 := Lib.hid (show Q = ([], 20) by rw [HQ.out, h1, h2]; rfl)
      clear HQ h1 h2
      go_enter Try.func17, Try.ntmps17
      go_wp2_with (first | (go_at_call 8; refine (H1.out _ HR.out).mono ?_; rintro e w1 ⟨rfl, hw⟩; rw [hw]) | (go_at_call 6; refine (H2.out _).mono ?_; rintro e w2 ⟨rfl, hw2⟩; rw [hw2]))
      go_ret2
      exact ⟨_, by rw [HQ2.out]; rfl, by rw [HQ2.out]; exact Kd.R_nil _ _ _ _ _, Below.refl _ _⟩
    · rw [h1] at H1
      rw [h2] at H2
      have HQ2 := Lib.hid (show Q = (if sizeP (l ++ [name]) ≤ 1024 then (l ++ [name], 0) else ([], 4)) by rw [HQ.out, h1, h2]; rfl)
      clear HQ h1 h2
      obtain ⟨l2, hl2⟩ : ∃ l2, l ++ [name] = l2 := ⟨_, rfl⟩
      rw [hl2] at HQ2 H4 HG
      have HL2 := Lib.hid hl2
      clear hl2
      have hg := HG.out
      clear HG
      by_cases h3 : sizeP l2 ≤ 1024
      all_goals
        have HQ3 := HQ2.out
        first | rw [if_pos h3] at HQ3 | rw [if_neg h3] at HQ3
        have HQ4 := Lib.hid HQ3
        simp only [h3, decide_true, decide_false, Bool.not_true, Bool.not_false] at hg
        clear HQ2 HQ3 h3
        generalize rsize l2 = sz at *
        go_enter Try.func17, Try.ntmps17
        go_wp2_with (first | (go_at_call 8; refine (H1.out _ HR.out).mono ?_; rintro e w1 ⟨rfl, hw⟩; rw [hw]) | (go_at_call 6; refine (H2.out _).mono ?_; rintro e w2 ⟨rfl, hw2⟩; rw [hw2]) | (go_at_call 4; refine (H3.out _ HR.out).mono ?_; rintro e w3 ⟨v, rfl, ho, hb5⟩; have HO := Lib.hid ho; have hsz5 := hb5.size; clear ho) | (at_builtin; refine Kd.R_append Kd.string (w0 := w) w.heap.size rfl (.tmp 21) (.tmp 23) 23 9 (.string ⟨#[]⟩) 16 rfl Try.underlying23 info_str rfl (by decide) (by decide) _ l name [.string name] (fun _ => True) (fun _ => False) rfl rfl ?aP (fun _ hk => hk.elim) ?aF ?aO ?aB ?aS ?aL ?_; (case aP => exact rfl); (case aF => exact (fun _ _ => trivial)); (case aO => exact HO.out); (case aB => exact hb5); (case aS => exact hsz5); (case aL => omega); intro v1 w4 ho4 hb6 hg hat; rw [HL2.out] at ho4; obtain ⟨A', c', hv1, hc', hC⟩ := Kd.R_reads ho4; rw [hv1]; have HV := Lib.hid hv1; have HO4 := Lib.hid ho4; have HC := Lib.hid hC; clear hv1 hg hat ho4 hC HO hb5) | (go_at_call 22; refine (H4.out _ _ _ HC.out hc').mono ?_; rintro e w5 ⟨rfl, hw5⟩; rw [hw5]))
        go_ret2
      · exact ⟨_, by rw [HQ4.out]; rfl, by rw [HQ4.out, ← HV.out]; exact HO4.out, hb6⟩
      · exact ⟨_, by rw [HQ4.out]; rfl, by rw [HQ4.out]; exact Kd.R_nil _ _ _ _ _, hb6⟩
end Go.Proofs.Ytdhchmonmbppmaa.G
