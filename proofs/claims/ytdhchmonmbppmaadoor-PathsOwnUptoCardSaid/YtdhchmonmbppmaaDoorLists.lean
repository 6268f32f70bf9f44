/- Lists of paths: Copies, Alike, Within, Compare and Inside of the reference. -/
import Derived.Test.YtdhchmonmbppmaaDoorCmp
import Derived.Test.YtdhchmonmbppmaaDoorRef2
namespace Go.Proofs.YtdhchmonmbppmaaDoor.G
open Go.RowKit Go.Lib Go.Proofs.YtdhchmonmbppmaaDoorW.PrintWords Go.Proofs.YtdhchmonmbppmaaDoorW.PrintLast
set_option linter.unusedVariables false

abbrev PathK : Kd (List ByteArray) := Kd.slice 9 Kd.string
theorem path_at {w : World} {A : Option Addr} {ll : List (List ByteArray)} (h : Kd.C PathK w A ll.length ll) (k : Nat) (hk : k < ll.length) :
    ∃ ad A' c', A = some ad ∧ w.cell? (ad.add k) = some (.slice A' ll[k].length c') ∧ ll[k].length ≤ c' ∧ Kd.C Kd.string w A' ll[k].length ll[k] := by
  obtain ⟨ad, e, hc⟩ := h.2.2 (by omega)
  obtain ⟨cs, _, ⟨A', c', rfl, h1, h2⟩, h3⟩ := hc k _ (List.getElem?_eq_getElem hk)
  have h4 := h3 0 _ rfl
  rw [show k * PathK.sz + 0 = k by show k * 1 + 0 = k; omega] at h4
  exact ⟨ad, A', c', e, h4, h1, h2⟩

def sumLL (ll : List (List ByteArray)) : Nat := (ll.map fun p => p.length + 1).sum
theorem sumLL_mem {ll : List (List ByteArray)} {p : List ByteArray} (h : p ∈ ll) : p.length + 1 ≤ sumLL ll := by
  induction ll with
  | nil => cases h
  | cons q ll ih =>
    simp only [sumLL, List.map_cons, List.sum_cons] at ih ⊢
    rcases List.mem_cons.1 h with rfl | h
    · omega
    · have := ih h; omega
theorem sumLL_len (ll : List (List ByteArray)) : ll.length ≤ sumLL ll := by
  induction ll with
  | nil => simp
  | cons q ll ih => simp only [sumLL, List.map_cons, List.sum_cons, List.length_cons] at ih ⊢; omega

set_option maxHeartbeats 4000000 in
set_option maxRecDepth 100000 in
theorem rcopies_calls (A : Option Addr) (c : Nat) (ll : List (List ByteArray)) (w : World) (hr : Kd.C PathK w A ll.length ll) (hc : ll.length ≤ c) (hl : sumLL ll ≤ 1099511627776) :
    Calls Tryd.prog 23 #[.slice A ll.length c] w fun e w' => ∃ v, e = .returned v ∧ Kd.R PathK 23 w' w.heap.size (fun _ => True) v ll ∧ Below w.heap.size w w' := by
  have HR := Lib.hid hr
  have hll := sumLL_len ll
  clear hr
  go_enter Tryd.func23, Tryd.ntmps23
  go_wp2
  go_loopw [3, 4] (fun v i wr => ∃ k : Nat, k ≤ ll.length ∧ i = .int .i64 k ∧ Hid (Kd.R PathK 23 wr w.heap.size (fun _ => True) v (ll.take k)) ∧ Below w.heap.size w wr) (fun _ i _ => ll.length - (RowKit.intOf i).toNat)
  case atStart => exact ⟨0, by omega, rfl, Lib.hid (Kd.R_nil _ _ _ _ _), Below.refl _ _⟩
  case round =>
    obtain ⟨k, hk, rfl, HO, hb⟩ := hrel
    have hsz := hb.size
    by_cases hlt : k < ll.length
    · obtain ⟨ad, A', c', rfl, hx, hc', hC'⟩ := path_at HR.out k hlt
      have hm := sumLL_mem (List.getElem_mem hlt)
      have hx2 := (hb.cell (World.block_lt_of_cell? w _ hx)).trans hx
      have HC' := Lib.hid (Kd.C_below hC' hb)
      have HT := Lib.hid (List.take_succ_eq_append_getElem hlt)
      have HL := Lib.hid (show (ll.take k).length = k by rw [List.length_take]; omega)
      clear hx hC'
      generalize ll[k] = p at *
      have H1 := Lib.hid (fun W h => rcopy_calls A' c' p W h hc' (by omega))
      go_wp2_with fail
      refine (H1.out _ HC'.out).mono ?_
      rintro e w4 ⟨v4, rfl, ho4, hb4⟩
      obtain ⟨A4, c4, hv4, hc4, hC4⟩ := Kd.R_reads ho4
      have hlt4 := Kd.R_lt HO.out
      have HO4 := Lib.hid (Kd.R_below HO.out hb4)
      have HP4 : Hid (Kd.R Kd.string 9 w4 w.heap.size (fun j => wr.heap.size ≤ j) v4 p) := Lib.hid (Kd.R_lower (Kd.R_mono (Kd.R_bound ho4) (fun j h => h.2.1)) hsz)
      have hbx := bstep hb hsz hb4
      have hsz4 := hbx.size
      rw [hv4] at HP4 ⊢
      clear ho4 hC4 hb4 hv4
      go_wp2_with (at_builtin; refine Kd.R_append PathK (w0 := w) w.heap.size rfl (.tmp 11) (.tmp 17) 43 23 (.slice none 0 0) 24 rfl Tryd.underlying43 info_path rfl (by decide) (by decide) _ (ll.take k) p [.slice A4 p.length c4] (fun _ => True) (fun j => wr.heap.size ≤ j) rfl rfl ?aP ?aK ?aF ?aO ?aB ?aS ?aL ?_; (case aP => exact ⟨_, rfl, HP4.out⟩); (case aK => exact fun j hj => ⟨trivial, fun e => by have := hlt4 j e.symm; omega⟩); (case aF => exact (fun _ _ => trivial)); (case aO => exact HO4.out); (case aB => exact hbx); (case aS => exact hsz4); (case aL => rw [HL.out]; omega); intro v1 w5 ho hb5 hg hat)
      go_roundw
      case rel => exact ⟨k + 1, by omega, by go_num, Lib.hid (by rw [HT.out]; exact ho), hb5⟩
      case measure => simp [RowKit.intOf]; omega
    · obtain rfl : k = ll.length := by omega
      go_wp2
      go_ret
      refine ⟨_, rfl, ?_, hb⟩
      have := HO.out
      rw [List.take_length] at this
      exact this

/-! ### Alike -/
theorem get_ne {ll mm : List (List ByteArray)} {k : Nat} (h1 : k < ll.length) (h2 : k < mm.length) (h : sameB ll[k] mm[k] = false) : ll ≠ mm := by
  rintro rfl
  simp [sameB] at h
theorem alike_step {ll mm : List (List ByteArray)} (hlen : ll.length = mm.length) (h : ∀ k (h1 : k < ll.length) (h2 : k < mm.length), sameB ll[k] mm[k] = true) : ll = mm := by
  apply List.ext_getElem hlen
  intro k h1 h2
  have := h k h1 h2
  simpa [sameB] using this

set_option maxHeartbeats 4000000 in
theorem ralike_calls (A : Option Addr) (c : Nat) (ll : List (List ByteArray)) (B : Option Addr) (d : Nat) (mm : List (List ByteArray)) (w : World) (hr : Kd.C PathK w A ll.length ll) (hc : ll.length ≤ c) (hl : sumLL ll ≤ 1099511627776) (hs : Kd.C PathK w B mm.length mm) (hd : mm.length ≤ d) (hl2 : mm.length ≤ 1099511627776) :
    Calls Tryd.prog 26 #[.slice A ll.length c, .slice B mm.length d] w fun e w' => e = .returned (.bool (decide (ll = mm))) ∧ ∃ n, w' = w.drewN n := by
  have HR := Lib.hid hr
  have HS := Lib.hid hs
  have hll := sumLL_len ll
  clear hr hs
  by_cases hlen : ll.length = mm.length
  · have hz : ((ll.length : Int) != (mm.length : Int)) = false := by simp [hlen]
    go_enter Tryd.func26, Tryd.ntmps26
    go_wp2
    go_loopw [5] (fun i wr => ∃ k n : Nat, k ≤ ll.length ∧ i = .int .i64 k ∧ wr = w.drewN n ∧ Hid (∀ j (h1 : j < ll.length) (h2 : j < mm.length), j < k → sameB ll[j] mm[j] = true)) (fun i _ => ll.length - (RowKit.intOf i).toNat)
    case atStart => exact ⟨0, 0, by omega, rfl, rfl, Lib.hid (fun j _ _ h => by omega)⟩
    case round =>
      obtain ⟨k, n, hk, rfl, rfl, HN⟩ := hrel
      by_cases hlt : k < ll.length
      · have hlt2 : k < mm.length := by omega
        obtain ⟨ad, A', c', rfl, hx, hc', hC'⟩ := path_at HR.out k hlt
        obtain ⟨bd, B', d', rfl, hy, hd', hD'⟩ := path_at HS.out k hlt2
        have hm := sumLL_mem (List.getElem_mem hlt)
        have HX := Lib.hid (fun m i => (rsame_calls A' c' ll[k] B' d' mm[k] (w.drewN (m + i)) (Kd.C_below hC' (bdrewN (Below.refl _ _) _)) hc' (Kd.C_below hD' (bdrewN (Below.refl _ _) _)) hd' (by omega)).mono (R' := fun e w'' => e = .returned (.bool (sameB ll[k] mm[k])) ∧ ∃ j, w'' = w.drewN (m + j)) fun e w'' ⟨he, j, hw⟩ => ⟨he, i + j, by rw [hw, World.drewN_drewN]; congr 1; omega⟩)
        have HE : Hid (∀ b, sameB ll[k] mm[k] = b → (b = true → ∀ j (h1 : j < ll.length) (h2 : j < mm.length), j < k + 1 → sameB ll[j] mm[j] = true) ∧ (b = false → ll ≠ mm)) := Lib.hid (by
          intro b hb
          refine ⟨fun e j h1 h2 h3 => ?_, fun e => get_ne hlt hlt2 (by rw [hb, e])⟩
          by_cases hj : j < k
          · exact HN.out j h1 h2 hj
          · obtain rfl : j = k := by omega
            rw [hb, e])
        clear hC' hD' HN
        generalize sameB ll[k] mm[k] = sb at *
        generalize ll[k].length = n1 at *
        generalize mm[k].length = n2 at *
        have g1 : (k : Int) < (ll.length : Int) := by omega
        have g2 : (k : Int) < (mm.length : Int) := by omega
        go_wp2_with fail
        go_quiet ((go_at_call 14; exact HX.out _ _))
        all_goals
          cases sb
          · go_wp2_with fail
            go_ret
            exact ⟨by rw [decide_eq_false ((HE.out _ rfl).2 rfl)]; rfl, _, by first | rfl | exact World.drewN_drewN _ _ _⟩
          · go_wp2_with fail
            go_roundw
            case rel => exact ⟨k + 1, n + nq, by omega, by go_num, by first | rfl | exact World.drewN_drewN _ _ _, Lib.hid ((HE.out _ rfl).1 rfl)⟩
            case measure => simp [RowKit.intOf]; omega
      · obtain rfl : k = ll.length := by omega
        go_wp2
        go_ret
        have he : ll = mm := alike_step hlen (fun j h1 h2 => HN.out j h1 h2 h1)
        exact ⟨by rw [decide_eq_true he]; rfl, n, rfl⟩
  · have hz : ((ll.length : Int) != (mm.length : Int)) = true := by
      rw [bne_iff_ne]; omega
    have he : ll ≠ mm := fun h => hlen (by rw [h])
    go_enter Tryd.func26, Tryd.ntmps26
    go_wp2
    go_ret
    exact ⟨by rw [decide_eq_false he]; rfl, 0, rfl⟩

/-! ### The reference's Within and Compare -/
theorem less_cmp : ∀ a b : List UInt8, Op.bytesLess a b = decide (compareBytes a b < 0)
  | [], [] => rfl
  | [], _ :: _ => rfl
  | _ :: _, [] => rfl
  | x :: a, y :: b => by
    have ih := less_cmp a b
    unfold Op.bytesLess compareBytes
    simp only [UInt8.lt_iff_toNat_lt]
    by_cases h1 : x.toNat < y.toNat
    · simp [h1]
    · by_cases h2 : y.toNat < x.toNat
      · have h3 : (x == y) = false := by rw [beq_eq_false_iff_ne]; rintro rfl; omega
        simp [h1, h2, h3]
      · have h3 : x = y := UInt8.toNat_inj.1 (by omega)
        simp [h1, h2, h3, ih]
theorem both_differ : ∀ {a b : List ByteArray} (h1 : both a b < a.length) (h2 : both a b < b.length), a[both a b]'h1 ≠ b[both a b]'h2
  | [], b, h1, _ => by simp at h1
  | x :: a, [], _, h2 => by simp at h2
  | x :: a, y :: b, h1, h2 => by
    by_cases h : x = y
    · have hb : both (x :: a) (y :: b) = both a b + 1 := by rw [both, if_pos h]
      have := both_differ (a := a) (b := b) (by rw [hb] at h1; simpa using h1) (by rw [hb] at h2; simpa using h2)
      simp only [hb, List.getElem_cons_succ]
      exact this
    · have hb : both (x :: a) (y :: b) = 0 := by rw [both, if_neg h]
      simp only [hb, List.getElem_cons_zero]
      exact h

set_option maxHeartbeats 2000000 in
theorem rwithin_calls (A : Option Addr) (c : Nat) (a : List ByteArray) (B : Option Addr) (d : Nat) (b : List ByteArray) (w : World) (hr : Kd.C Kd.string w A a.length a) (hc : a.length ≤ c) (hs : Kd.C Kd.string w B b.length b) (hd : b.length ≤ d) (hl : a.length ≤ 8796093022208) :
    Calls Tryd.prog 24 #[.slice A a.length c, .slice B b.length d] w fun e w' => e = .returned (.bool (withinB a b)) ∧ ∃ n, w' = w.drewN n := by
  have H1 := Lib.hid (rboth_calls A c a B d b w hr hc hs hd hl)
  have hk1 := both_le_left a b
  by_cases hlen : b.length ≤ a.length
  · have HW := Lib.hid (show withinB a b = ((both a b : Int) == (b.length : Int)) by
      unfold withinB
      rw [Bool.eq_iff_iff, decide_eq_true_iff, beq_iff_eq]
      omega)
    clear hr hs
    generalize both a b = k at *
    generalize withinB a b = wb at *
    have hw := HW.out.symm
    have g1 : decide ((b.length : Int) ≤ (a.length : Int)) = true := decide_eq_true (by omega)
    have g2 : (b.length : Int) ≤ (a.length : Int) := by omega
    go_enter Tryd.func24, Tryd.ntmps24
    go_wp2_with fail
    refine H1.out.mono ?_
    rintro e w1 ⟨rfl, n1, rfl⟩
    go_wp2_with fail
    go_ret
    exact ⟨by first | (rw [← hw]; rfl) | rfl, n1, rfl⟩
  · have hw : withinB a b = false := by unfold withinB; exact decide_eq_false (by omega)
    rw [hw]
    have g1 : decide ((b.length : Int) ≤ (a.length : Int)) = false := decide_eq_false (by omega)
    have g2 : ¬ (b.length : Int) ≤ (a.length : Int) := by omega
    clear hr hs H1
    go_enter Tryd.func24, Tryd.ntmps24
    go_wp2_with fail
    go_ret
    exact ⟨rfl, 0, rfl⟩

set_option maxHeartbeats 4000000 in
theorem rcompare_calls (A : Option Addr) (c : Nat) (a : List ByteArray) (B : Option Addr) (d : Nat) (b : List ByteArray) (w : World) (hr : Kd.C Kd.string w A a.length a) (hc : a.length ≤ c) (hs : Kd.C Kd.string w B b.length b) (hd : b.length ≤ d) (hl : a.length ≤ 8796093022208) :
    Calls Tryd.prog 25 #[.slice A a.length c, .slice B b.length d] w fun e w' => e = .returned (.int .i64 (cmpP a b)) ∧ ∃ n, w' = w.drewN n := by
  have H1 := Lib.hid (rboth_calls A c a B d b w hr hc hs hd hl)
  have HQ := cmpP_both a b
  have hk1 := both_le_left a b
  have hk2 := both_le_right a b
  by_cases ha : both a b = a.length
  · have g1 : ((both a b : Int) == (a.length : Int)) = true := by rw [ha]; simp
    by_cases hb : both a b = b.length
    · have g2 : ((both a b : Int) == (b.length : Int)) = true := by rw [hb]; simp
      have hq : cmpP a b = 0 := by rw [HQ, dif_neg (by omega), compareInt, if_neg (by omega), if_neg (by omega)]
      rw [hq]
      clear hr hs HQ hq
      generalize both a b = k at *
      go_enter Tryd.func25, Tryd.ntmps25
      go_wp2_with fail
      refine H1.out.mono ?_
      rintro e w1 ⟨rfl, n1, rfl⟩
      clear ha hb
      go_wp2_with fail
      go_ret
      exact ⟨rfl, n1, rfl⟩
    · have g2 : ((both a b : Int) == (b.length : Int)) = false := beq_eq_false_iff_ne.2 (by omega)
      have hq : cmpP a b = -1 := by rw [HQ, dif_neg (by omega), compareInt, if_pos (by omega)]
      rw [hq]
      clear hr hs HQ hq
      generalize both a b = k at *
      go_enter Tryd.func25, Tryd.ntmps25
      go_wp2_with fail
      refine H1.out.mono ?_
      rintro e w1 ⟨rfl, n1, rfl⟩
      clear ha hb
      go_wp2_with fail
      go_ret
      exact ⟨rfl, n1, rfl⟩
  · have g1 : ((both a b : Int) == (a.length : Int)) = false := beq_eq_false_iff_ne.2 (by omega)
    by_cases hb : both a b = b.length
    · have g2 : ((both a b : Int) == (b.length : Int)) = true := by rw [hb]; simp
      have hq : cmpP a b = 1 := by rw [HQ, dif_neg (by omega), compareInt, if_neg (by omega), if_pos (by omega)]
      rw [hq]
      clear hr hs HQ hq
      generalize both a b = k at *
      go_enter Tryd.func25, Tryd.ntmps25
      go_wp2_with fail
      refine H1.out.mono ?_
      rintro e w1 ⟨rfl, n1, rfl⟩
      clear ha hb
      go_wp2_with fail
      go_ret
      exact ⟨rfl, n1, rfl⟩
    · have g2 : ((both a b : Int) == (b.length : Int)) = false := beq_eq_false_iff_ne.2 (by omega)
      have h : both a b < a.length ∧ both a b < b.length := by omega
      rw [dif_pos h] at HQ
      obtain ⟨ad, rfl, hx⟩ := Kd.at_string hr (both a b : Int) (by omega) (by omega)
      obtain ⟨bd, rfl, hy⟩ := Kd.at_string hs (both a b : Int) (by omega) (by omega)
      rw [Int.toNat_natCast] at hx hy
      have he : rdOf ByteArray.empty a (both a b : Int) = a[both a b]'h.1 := by simp [rdOf, h.1]
      have he2 : rdOf ByteArray.empty b (both a b : Int) = b[both a b]'h.2 := by simp [rdOf, h.2]
      rw [he] at hx
      rw [he2] at hy
      have hne := both_differ h.1 h.2
      clear he he2
      obtain ⟨h3, h4⟩ := h
      generalize a[both a b]'h3 = x at *
      generalize b[both a b]'h4 = y at *
      have HQ2 := Lib.hid HQ
      have HNE := Lib.hid hne
      clear HQ hr hs hk1 hk2 ha hb hne
      generalize both a b = k at *
      have g3 : (k : Int) < (a.length : Int) := by omega
      have g4 : (k : Int) < (b.length : Int) := by omega
      go_enter Tryd.func25, Tryd.ntmps25
      go_wp2_with fail
      refine H1.out.mono ?_
      rintro e w1 ⟨rfl, n1, rfl⟩
      go_wp2_with fail
      have HB := Lib.hid (less_cmp x.data.toList y.data.toList)
      have hrg := cb_range x.data.toList y.data.toList
      have hz0 : compareBytes x.data.toList y.data.toList ≠ 0 := fun e => HNE.out (data_eq (cb_zero.1 e))
      rw [← Lib.toList_data x, ← Lib.toList_data y] at HB
      go_quiet (fail)
      all_goals
        cases hbl : Op.bytesLess x.toList y.toList
        · have h1 := HB.out
          rw [hbl] at h1
          have h2 := of_decide_eq_false h1.symm
          rw [Lib.toList_data, Lib.toList_data] at h2
          clear h1
          have hq : cmpP a b = 1 := by rw [HQ2.out]; omega
          go_wp2_with fail
          go_ret
          exact ⟨by first | rfl | (rw [hq]; rfl), _, by first | rfl | exact World.drewN_drewN _ _ _⟩
        · have h1 := HB.out
          rw [hbl] at h1
          have h2 := of_decide_eq_true h1.symm
          rw [Lib.toList_data, Lib.toList_data] at h2
          clear h1
          have hq : cmpP a b = -1 := by rw [HQ2.out]; omega
          go_wp2_with fail
          go_ret
          exact ⟨by first | rfl | (rw [hq]; rfl), _, by first | rfl | exact World.drewN_drewN _ _ _⟩
end Go.Proofs.YtdhchmonmbppmaaDoor.G
