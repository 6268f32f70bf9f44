/- The law PathsCover: it returns true. -/
import Derived.Test.YtdhchmonmbppmaaDoorLCovers
import Derived.Test.YtdhchmonmbppmaaDoorLOrder
namespace Go.Proofs.YtdhchmonmbppmaaDoor.G
open Go.RowKit Go.Lib Go.Proofs.YtdhchmonmbppmaaDoorW.PrintWords Go.Proofs.YtdhchmonmbppmaaDoorW.PrintLast
set_option linter.unusedVariables false

theorem insideB_iff {ll : List (List ByteArray)} {p : List ByteArray} : insideB ll p = true ↔ ∃ x ∈ ll, x <+: p := by
  unfold insideB
  rw [List.any_eq_true]
  exact ⟨fun ⟨x, h1, h2⟩ => ⟨x, h1, (within_iff p x).1 h2⟩, fun ⟨x, h1, h2⟩ => ⟨x, h1, (within_iff p x).2 h2⟩⟩

/-- What the law asks of a cover. -/
theorem cover_facts {ll out : List (List ByteArray)} (hs : strictP out) (hm : ∀ x, x ∈ out ↔ leastP ll x) (hc : ∀ x ∈ ll, ∃ o ∈ out, o <+: x) :
    (∀ p, insideB out p = insideB ll p) ∧ (∀ x, leastP out x ↔ x ∈ out) ∧ (∀ i (h : i < out.length), insideB ll out[i] = true) ∧ (∀ i (h : i < ll.length), insideB out ll[i] = true)
    ∧ (∀ i k (h : i < out.length) (h' : k < out.length), i ≠ k → withinB out[i] out[k] = false) ∧ (∀ i k (h : i < out.length) (h' : k < out.length), i < k → cmpP out[i] out[k] < 0) := by
  have hanti : ∀ x ∈ out, ∀ y ∈ out, y <+: x → y = x := fun x hx y hy h => ((hm x).1 hx).2 y ((hm y).1 hy).1 h
  have hnd := strict_nodup hs
  refine ⟨fun p => ?_, fun x => ?_, fun i h => ?_, fun i h => ?_, fun i k h h' hne => ?_, fun i k h h' hlt => ?_⟩
  · rw [Bool.eq_iff_iff, insideB_iff, insideB_iff]
    constructor
    · rintro ⟨x, h1, h2⟩; exact ⟨x, ((hm x).1 h1).1, h2⟩
    · rintro ⟨x, h1, h2⟩
      obtain ⟨o, h3, h4⟩ := hc x h1
      exact ⟨o, h3, h4.trans h2⟩
  · exact ⟨fun h => h.1, fun h => ⟨h, fun y hy hp => hanti x h y hy hp⟩⟩
  · exact insideB_iff.2 ⟨out[i], ((hm _).1 (List.getElem_mem h)).1, List.prefix_refl _⟩
  · exact insideB_iff.2 (hc _ (List.getElem_mem h))
  · cases hw : withinB out[i] out[k]
    · rfl
    · have he := hanti _ (List.getElem_mem h) _ (List.getElem_mem h') ((within_iff _ _).1 hw)
      exact absurd ((List.getElem_inj hnd).1 he).symm hne
  · exact List.pairwise_iff_getElem.1 hs i k h h' hlt

set_option maxHeartbeats 16000000 in
set_option maxRecDepth 100000 in
theorem lcover_calls (A : Option Addr) (c : Nat) (ll : List (List ByteArray)) (B : Option Addr) (d : Nat) (p : List ByteArray) (w : World) (hr : Kd.C PathK w A ll.length ll) (hc : ll.length ≤ c) (hl : sumLL ll ≤ 2097152)
    (hr2 : Kd.C Kd.string w B p.length p) (hd : p.length ≤ d) (hl2 : p.length ≤ 1048576) (hs2 : sumP p ≤ 2097152) :
    Calls Tryd.prog 9 #[.slice A ll.length c, .slice B p.length d] w fun e w' => e = .returned (.bool true) ∧ Below w.heap.size w w' := by
  have hll := sumLL_len ll
  have HR := Lib.hid hr
  have HR2 := Lib.hid hr2
  clear hr hr2
  go_enter Tryd.func9, Tryd.ntmps9
  go_wp2_with fail
  refine (begins_calls _).mono ?_
  rintro e w1 ⟨rfl, hb1⟩
  have H1 := Lib.hid (cover_calls A c ll w1 (Kd.C_below HR.out hb1) hc (by omega))
  go_wp2_with fail
  refine H1.out.mono ?_
  clear H1
  rintro e w2 ⟨v2, out, rfl, ho2, hs, hm, hcv, hb2⟩
  obtain ⟨A2, c2, rfl, hc2, hC2⟩ := Kd.R_reads ho2
  have hb2' := hb1.trans (hb2.mono hb1.size)
  have hw2 := hb2'.size
  have hsum := strict_sum hs hm
  have hlen := sumLL_len out
  obtain ⟨F1, F2, F3, F4, F5, F6⟩ := cover_facts hs hm hcv
  have HC2 := Lib.hid hC2
  have D : ∀ {W : World}, Below w2.heap.size w2 W → Below w.heap.size w W := fun h => hb2'.trans (h.mono hw2)
  have hD := Lib.hid (fun W (h : Below w2.heap.size w2 W) => D h)
  have I1 := Lib.hid (fun W (h : Below w2.heap.size w2 W) => inside_calls A2 c2 out B d p W (Kd.C_below hC2 h) hc2 (by omega) (Kd.C_below HR2.out (D h)) hd (by omega))
  have I2 := Lib.hid (fun W (h : Below w2.heap.size w2 W) => inside_calls A c ll B d p W (Kd.C_below HR.out (D h)) hc (by omega) (Kd.C_below HR2.out (D h)) hd (by omega))
  have I3 := Lib.hid (fun W (h : Below w2.heap.size w2 W) => cover_calls A2 c2 out W (Kd.C_below hC2 h) hc2 (by omega))
  have K1 := Lib.hid F3
  have K2 := Lib.hid F4
  have K3 := Lib.hid F5
  have K4 := Lib.hid F6
  have K5 := Lib.hid F2
  have K6 := Lib.hid hs
  have e1 := F1 p
  clear ho2 hC2 hs hm hcv F1 F2 F3 F4 F5 F6 hb2 hb1 hb2' D hw2
  rw [e1] at I1
  generalize insideB ll p = ins at *
  have h0 : Below w2.heap.size w2 w2 := Below.refl _ _
  go_wp2_with fail
  refine (I1.out _ h0).mono ?_
  rintro e w3 ⟨rfl, hb3⟩
  go_wp2_with fail
  refine (I2.out _ hb3).mono ?_
  rintro e w4 ⟨rfl, hb4⟩
  have hb4' := hb3.trans (hb4.mono hb3.size)
  clear hb4
  go_wp2_with fail
  refine (I3.out _ hb4').mono ?_
  rintro e w5 ⟨v5, out5, rfl, ho5, hs5, hm5, hcv5, hb5⟩
  obtain ⟨A5, c5, rfl, hc5, hC5⟩ := Kd.R_reads ho5
  obtain rfl : out = out5 := strict_unique K6.out hs5 fun x => (K5.out x).symm.trans (hm5 x).symm
  have hb5' := hb4'.trans (hb5.mono hb4'.size)
  have HA := Lib.hid (ralike_calls A5 c5 out A2 c2 out w5 hC5 hc5 (by omega) (Kd.C_below HC2.out hb5') hc2 (by omega))
  clear ho5 hC5 hb5 hs5 hm5 hcv5 I1 I2 I3 K5 K6
  go_wp2_with fail
  refine HA.out.mono ?_
  rintro e w6 ⟨rfl, n6, rfl⟩
  clear HA
  have hb6 := bdrewN hb5' n6
  generalize w5.drewN n6 = w6 at *
  clear hb5'
  go_wp2_with fail
  go_loopw [6] (fun i wr => ∃ k : Nat, k ≤ out.length ∧ i = .int .i64 k ∧ Below w2.heap.size w2 wr) (fun i _ => out.length - (RowKit.intOf i).toNat)
  case atStart => exact ⟨0, by omega, rfl, hb6⟩
  case round =>
    obtain ⟨i, hi, rfl, hb⟩ := hrel
    by_cases hlt : i < out.length
    · obtain ⟨ad, A', c', hA', hx, hc', hC'⟩ := path_at HC2.out i hlt
      subst hA'
      have hx2 := (hb.cell (World.block_lt_of_cell? w2 _ hx)).trans hx
      have hmi := sumLL_mem (List.getElem_mem hlt)
      have HI := Lib.hid (inside_calls A c ll A' c' out[i] wr (Kd.C_below HR.out (hD.out _ hb)) hc (by omega) (Kd.C_below hC' hb) hc' (by omega))
      rw [K1.out i hlt] at HI
      have HXI := Lib.hid hx
      have HCI := Lib.hid hC'
      have HN := Lib.hid (fun k (h : k < out.length) (hne : i ≠ k) => K3.out i k hlt h hne)
      have HL := Lib.hid (fun k (h : k < out.length) (hne : i < k) => K4.out i k hlt h hne)
      clear hC' hx
      generalize out[i] = q at *
      have g1 : (i : Int) < (out.length : Int) := by omega
      go_wp2_with fail
      refine HI.out.mono ?_
      rintro e wi ⟨rfl, hbi⟩
      have hbi' := hb.trans (hbi.mono hb.size)
      clear hbi hx2 HI
      go_wp2_with fail
      go_loopw [7] (fun j wr => ∃ k : Nat, k ≤ out.length ∧ j = .int .i64 k ∧ Below w2.heap.size w2 wr) (fun j _ => out.length - (RowKit.intOf j).toNat)
      case atStart => exact ⟨0, by omega, rfl, hbi'⟩
      case round =>
        obtain ⟨k, hk, rfl, hbk⟩ := hrel
        by_cases hlt2 : k < out.length
        · obtain ⟨ad2, A3, c3, hA2, hy, hc3, hC3⟩ := path_at HC2.out k hlt2
          injection hA2 with hA2
          subst hA2
          have hx2 := (hbk.cell (World.block_lt_of_cell? w2 _ HXI.out)).trans HXI.out
          have hy2 := (hbk.cell (World.block_lt_of_cell? w2 _ hy)).trans hy
          have hmk := sumLL_mem (List.getElem_mem hlt2)
          have HW := Lib.hid (fun j => (within_calls A' c' q A3 c3 out[k] (wr.drewN j) (Kd.C_below HCI.out (bdrewN hbk _)) hc' (Kd.C_below hC3 (bdrewN hbk _)) hc3 (by omega)).mono (R' := fun e w'' => e = .returned (.bool (withinB q out[k])) ∧ ∃ k, w'' = wr.drewN k) fun e w'' ⟨he, k, hw⟩ => ⟨he, j + k, by rw [hw, World.drewN_drewN]⟩)
          have HM := Lib.hid (fun j => (compare_calls A' c' q A3 c3 out[k] (wr.drewN j) (Kd.C_below HCI.out (bdrewN hbk _)) hc' (Kd.C_below hC3 (bdrewN hbk _)) hc3 (by omega)).mono (R' := fun e w'' => e = .returned (.int .i64 (cmpP q out[k])) ∧ ∃ k, w'' = wr.drewN k) fun e w'' ⟨he, k, hw⟩ => ⟨he, j + k, by rw [hw, World.drewN_drewN]⟩)
          have f1 := HN.out k hlt2
          have f2 := HL.out k hlt2
          clear hy hC3
          generalize out[k] = q2 at *
          generalize withinB q q2 = wb at *
          generalize cmpP q q2 = cv at *
          have g2 : (k : Int) < (out.length : Int) := by omega
          rcases Nat.lt_trichotomy i k with h | h | h
          · obtain rfl := f1 (by omega)
            have f3 := f2 h
            have d1 : ((i : Int) != (k : Int)) = true := by rw [bne_iff_ne]; omega
            have d2 : decide ((i : Int) < (k : Int)) = true := decide_eq_true (by omega)
            have d3 : (i : Int) < (k : Int) := by omega
            have d4 : decide (0 ≤ cv) = false := decide_eq_false (by omega)
            have d5 : ¬ 0 ≤ cv := by omega
            have d6 : decide (cv ≥ 0) = false := decide_eq_false (by omega)
            have d7 : ¬ (i : Int) = (k : Int) := by omega
            have d8 : ¬ i = k := by omega
            clear f1 f2
            go_wp2_with fail
            go_quiet (first | (go_at_call 20; exact HW.out _) | (go_at_call 22; exact HM.out _))
            all_goals
              go_wp2_with fail
              go_roundw
              case rel => exact ⟨k + 1, by omega, by go_num, bdrewN hbk _⟩
              case measure => simp [RowKit.intOf]; omega
          · subst h
            clear f1 f2 HW HM
            go_wp2_with fail
            go_quiet (fail)
            all_goals
              go_wp2_with fail
              go_roundw
              case rel => exact ⟨i + 1, by omega, by go_num, bdrewN hbk _⟩
              case measure => simp [RowKit.intOf]; omega
          · obtain rfl := f1 (by omega)
            have d1 : ((i : Int) != (k : Int)) = true := by rw [bne_iff_ne]; omega
            have d2 : decide ((i : Int) < (k : Int)) = false := decide_eq_false (by omega)
            have d3 : ¬ (i : Int) < (k : Int) := by omega
            have d5 : ¬ i < k := by omega
            have d6 : decide (i < k) = false := decide_eq_false (by omega)
            have d7 : ¬ (i : Int) = (k : Int) := by omega
            have d8 : ¬ i = k := by omega
            clear f1 f2 HM
            go_wp2_with fail
            go_quiet ((go_at_call 20; exact HW.out _))
            all_goals
              go_wp2_with fail
              go_roundw
              case rel => exact ⟨k + 1, by omega, by go_num, bdrewN hbk _⟩
              case measure => simp [RowKit.intOf]; omega
        · obtain rfl : k = out.length := by omega
          clear hlt2
          go_wp2_with fail
          go_roundw
          case rel => exact ⟨i + 1, by omega, by go_num, hbk⟩
          case measure => simp [RowKit.intOf]; omega
    · obtain rfl : i = out.length := by omega
      clear hlt
      go_wp2_with fail
      go_loopw [8] (fun j wr => ∃ k : Nat, k ≤ ll.length ∧ j = .int .i64 k ∧ Below w2.heap.size w2 wr) (fun j _ => ll.length - (RowKit.intOf j).toNat)
      case atStart => exact ⟨0, by omega, rfl, hb⟩
      case round =>
        obtain ⟨k, hk, rfl, hbk⟩ := hrel
        by_cases hlt2 : k < ll.length
        · obtain ⟨ad, A', c', hA', hx, hc', hC'⟩ := path_at HR.out k hlt2
          subst hA'
          have hbw := hD.out _ hbk
          have hx2 := (hbw.cell (World.block_lt_of_cell? w _ hx)).trans hx
          have hmi := sumLL_mem (List.getElem_mem hlt2)
          have HI := Lib.hid (inside_calls A2 c2 out A' c' ll[k] wr (Kd.C_below HC2.out hbk) hc2 (by omega) (Kd.C_below hC' hbw) hc' (by omega))
          rw [K2.out k hlt2] at HI
          clear hx hC'
          generalize ll[k] = q at *
          have g1 : (k : Int) < (ll.length : Int) := by omega
          go_wp2_with fail
          refine HI.out.mono ?_
          rintro e wi ⟨rfl, hbi⟩
          have hbi' := hbk.trans (hbi.mono hbk.size)
          clear hbi hx2 HI hbw
          go_wp2_with fail
          go_roundw
          case rel => exact ⟨k + 1, by omega, by go_num, hbi'⟩
          case measure => simp [RowKit.intOf]; omega
        · obtain rfl : k = ll.length := by omega
          clear hlt2
          have hbw := hD.out _ hbk
          go_wp2_with fail
          go_ret
          exact ⟨rfl, hbw⟩
end Go.Proofs.YtdhchmonmbppmaaDoor.G
