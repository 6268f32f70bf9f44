/- The law VfsFaults, walked. Printed by wip/tools/gen_lvfaults.py. -/
import Derived.Test.YthlcjjhfkldmhaaDoorVFaultP
import Derived.Test.YthlcjjhfkldmhaaDoorVBegins
import Derived.Test.YthlcjjhfkldmhaaDoorVStep
set_option linter.unusedVariables false
set_option linter.unusedSimpArgs false
namespace Go.Proofs.YthlcjjhfkldmhaaDoor.G
open Go.RowKit Go.Lib Go.Proofs.YthlcjjhfkldmhaaDoorW.PrintWords Go.Proofs.YthlcjjhfkldmhaaDoorW.PrintLast
set_option linter.unusedVariables false
set_option linter.unusedSimpArgs false

/-- Two file systems apart, the one with a plan, the other without, behind k steps. -/
def FaultI (w : World) (g1 g2 : Nat) (t : File) (l : List Int) (L : List Step) (k : Nat) (wr : World) : Prop :=
  ∃ (S1 S2 : Nat → Prop) (f h : FsV), FsIn S1 wr g1 f ∧ FsIn S2 wr g2 h ∧ (∀ j, S1 j → ¬ S2 j) ∧ (∀ j, S1 j → w.heap.size ≤ j ∧ j < wr.heap.size) ∧ (∀ j, S2 j → w.heap.size ≤ j ∧ j < wr.heap.size) ∧
    f.tree = h.tree ∧ f.faults = l ∧ h.faults = [] ∧ rightT f.tree = true ∧ f.tree.bulk ≤ t.bulk + 259 * k + stepsB (L.take k) ∧ f.trace.length ≤ k ∧ h.trace.length ≤ k ∧ Below w.heap.size w wr
theorem steps_take {L : List Step} {k : Nat} (hk : k < L.length) : stepsB (L.take (k + 1)) = stepsB (L.take k) + stepB L[k] := by
  rw [List.take_succ_eq_append_getElem hk]
  simp only [stepsB, List.map_append, List.map_cons, List.map_nil, List.sum_append, List.sum_cons, List.sum_nil]
  omega
theorem steps_le (L : List Step) (k : Nat) : stepsB (L.take k) ≤ stepsB L := by
  have h : stepsB L = stepsB (L.take k) + stepsB (L.drop k) := by
    have h0 := congrArg stepsB (List.take_append_drop k L)
    rw [← h0]
    simp only [stepsB, List.map_append, List.sum_append]
  omega
theorem mem_take_succ {l : List Int} {k : Nat} (hk : k < l.length) (n : Int) : decide (n ∈ l.take (k + 1)) = (decide (n ∈ l.take k) || decide (l[k] = n)) := by
  rw [List.take_succ_eq_append_getElem hk]
  rw [Bool.eq_iff_iff]
  simp only [Bool.or_eq_true, decide_eq_true_iff, List.mem_append, List.mem_singleton]
  exact or_congr Iff.rfl eq_comm
set_option maxHeartbeats 8000000 in
set_option maxRecDepth 100000 in
theorem lvfaults_calls (t : File) (A : Option Addr) (c : Nat) (Al : Option Addr) (cl : Nat) (l : List Int) (AL : Option Addr) (cL : Nat) (L : List Step) (w : World) (ht : FileK.C w A t.files.length t.files) (hc : t.files.length ≤ c) (hbt : t.bulk ≤ 1048576) (hl : Kd.C (Kd.int .i64) w Al l.length l) (hcl : l.length ≤ cl) (hll : l.length ≤ 1048576) (hL : StepK.C w AL L.length L) (hcL : L.length ≤ cL) (hsl : stepsB L ≤ 1048576) :
    Calls Tryd.prog 4 #[fileV t A c, .slice Al l.length cl, .slice AL L.length cL] w fun e w' => e = .returned (.bool true) ∧ Below w.heap.size w w' := by
  have HT := Lib.hid ht
  have HL := Lib.hid hL
  have HF := Lib.hid hl
  have HSL := Lib.hid hsl
  have hlen := steps_len L
  have hLb : L.length ≤ 209715 := by omega
  have hax := below_alloc (Below.refl w.heap.size w) (.cells #[.string t.name, .int .u8 t.kind, .string t.data, .slice A t.files.length c] 25)
  have HX0 := Lib.hid (blk_new w (.cells #[.string t.name, .int .u8 t.kind, .string t.data, .slice A t.files.length c] 25))
  have HAX := Lib.hid hax
  clear ht hL hl hsl hax
  go_enter Tryd.func4, Tryd.ntmps4
  unfold fileV
  go_wp2_with fail
  generalize (w.alloc (.cells #[.string t.name, .int .u8 t.kind, .string t.data, .slice A t.files.length c] 25)) = W0 at *
  have hs0 := HAX.out.size
  refine (begins_calls W0).mono ?_
  rintro e w1 ⟨rfl, hq1⟩
  have hb1 := HAX.out.trans (hq1.mono hs0)
  have hs1 := hq1.size
  have HX1 := Lib.hid ((hq1.block _ (blk_lt HX0.out)).trans HX0.out)
  have l0 := cell_of (j := 0) HX1.out rfl
  have l1 := cell_of (j := 1) HX1.out rfl
  have l2 := cell_of (j := 2) HX1.out rfl
  have l3 := cell_of (j := 3) HX1.out rfl
  go_wp2_with fail
  clear l0 l1 l2 l3
  refine (show Calls Tryd.prog 19 #[.agg #[.string t.name, .int .u8 t.kind, .string t.data, .slice A t.files.length c], .slice Al l.length cl] w1 _ from new_in t A c Al cl l w1 (Kd.C_below HT.out hb1) hc (by omega) (Kd.C_below HF.out hb1) hcl (by omega)).mono ?_
  rintro e w2 h
  have hq2 : Below w1.heap.size w1 w2 := by
    rcases h with h | ⟨_, g, _, _, h⟩
    · exact h.2.2
    · exact h
  have hb2 := hb1.trans (hq2.mono hb1.size)
  have hs2 := hq2.size
  have HX2 := Lib.hid ((hq2.block _ (blk_lt HX1.out)).trans HX1.out)
  have HB2 := Lib.hid hb2
  rcases h with ⟨hr, rfl, _⟩ | ⟨hr, g1, rfl, hf, _⟩
  · skip
    have l0 := cell_of (j := 0) HX2.out rfl
    have l1 := cell_of (j := 1) HX2.out rfl
    have l2 := cell_of (j := 2) HX2.out rfl
    have l3 := cell_of (j := 3) HX2.out rfl
    go_wp2_with fail
    clear l0 l1 l2 l3
    refine (show Calls Tryd.prog 19 #[.agg #[.string t.name, .int .u8 t.kind, .string t.data, .slice A t.files.length c], .slice none 0 0] w2 _ from new_in t A c none 0 [] w2 (Kd.C_below HT.out hb2) hc (by omega) (Kd.C_nil _ _) (Nat.le_refl _) (by show 0 ≤ _; omega)).mono ?_
    rintro e w3 h
    rcases h with ⟨-, rfl, hq3⟩ | ⟨hr2, _⟩
    · have hb3 := hb2.trans (hq3.mono hb2.size)
      go_wp2_with fail
      go_ret
      exact ⟨rfl, hb3⟩
    · rw [hr] at hr2
      cases hr2
  · skip
    have HFa := Lib.hid hf
    clear hf hq2
    have l0 := cell_of (j := 0) HX2.out rfl
    have l1 := cell_of (j := 1) HX2.out rfl
    have l2 := cell_of (j := 2) HX2.out rfl
    have l3 := cell_of (j := 3) HX2.out rfl
    go_wp2_with fail
    clear l0 l1 l2 l3
    refine (show Calls Tryd.prog 19 #[.agg #[.string t.name, .int .u8 t.kind, .string t.data, .slice A t.files.length c], .slice none 0 0] w2 _ from new_in t A c none 0 [] w2 (Kd.C_below HT.out hb2) hc (by omega) (Kd.C_nil _ _) (Nat.le_refl _) (by show 0 ≤ _; omega)).mono ?_
    rintro e w3 h
    rcases h with ⟨hr2, _⟩ | ⟨-, g2, rfl, hg, hq3⟩
    · rw [hr] at hr2
      cases hr2
    have hb3 := hb2.trans (hq3.mono hb2.size)
    have hs3 := hq3.size
    have hwz := hb1.size
    have HI0 : Hid (FaultI w g1 g2 t l L 0 w3) := Lib.hid ⟨_, _, _, _, HFa.out.below hq3, hg, fun j h1 h2 => by have := h1.2; have := h2.1; omega, fun j h => ⟨by have := h.1; omega, by have := h.2; omega⟩, fun j h => ⟨by have := h.1; omega, h.2⟩, rfl, rfl, rfl, hr, by show t.bulk ≤ _; omega, Nat.le_refl _, Nat.le_refl _, hb3⟩
    clear HFa hg hb1 hb2 hb3 hq1 hq3 HX0 HX1 HX2 HAX HB2
    go_wp2_with fail
    go_loopw [11] (fun i wr => ∃ k : Nat, k ≤ L.length ∧ i = .int .i64 k ∧ Hid (FaultI w g1 g2 t l L k wr)) (fun i _ => L.length - (RowKit.intOf i).toNat)
    case atStart => exact ⟨0, by omega, rfl, HI0⟩
    case round =>
      clear HI0
      obtain ⟨k, hk, rfl, HI⟩ := hrel
      have hbase : Below w.heap.size w wr := by
        obtain ⟨_, _, _, _, _, _, _, _, _, _, _, _, _, _, _, _, hb⟩ := HI.out
        exact hb
      by_cases q1 : k < L.length
      · obtain ⟨ad, A1, c1, B1, d1, rfl, p0, p1, p2, p3, hc1, HP, hd1, HQ⟩ := step_at HL.out hbase k q1
        have hsb := stepB_mem (List.getElem_mem q1)
        have HTK := Lib.hid (steps_take q1)
        have hsk := steps_le L k
        generalize L[k] = x at *
        have HP0 := Lib.hid HP
        have HQ0 := Lib.hid HQ
        have hsl := HSL.out
        have hxp : P.sumP x.path ≤ 1099511627776 := by unfold stepB at hsb; have : P.sumP x.path = sumP x.path := rfl; omega
        have hxq : P.sumP x.dest ≤ 1099511627776 := by unfold stepB at hsb; have : P.sumP x.dest = sumP x.dest := rfl; omega
        have hxd : x.data.size ≤ 1048576 := by unfold stepB at hsb; omega
        have hxs : x.data.size + 5 ≤ stepB x := by unfold stepB; omega
        have hwr := hbase.size
        have hax := below_alloc (Below.refl wr.heap.size wr) (.cells #[.int .u8 x.kind, .slice A1 x.path.length c1, .slice B1 x.dest.length d1, .string x.data] 46)
        have HX := Lib.hid (blk_new wr (.cells #[.int .u8 x.kind, .slice A1 x.path.length c1, .slice B1 x.dest.length d1, .string x.data] 46))
        have HAX := Lib.hid hax
        have g1' : (k : Int) < (L.length : Int) := by omega
        have e0 := cell_of (j := 0) HX.out rfl
        have e1 := cell_of (j := 1) HX.out rfl
        have e2 := cell_of (j := 2) HX.out rfl
        have e3 := cell_of (j := 3) HX.out rfl
        clear HP HQ hsl hax
        go_wp2_with fail
        clear e0 e1 e2 e3 p0 p1 p2 p3
        generalize (wr.alloc (.cells #[.int .u8 x.kind, .slice A1 x.path.length c1, .slice B1 x.dest.length d1, .string x.data] 46)) = X1 at *
        have hsX := HAX.out.size
        refine (isCall_calls x A1 B1 c1 d1 X1).mono ?_
        rintro e w4 ⟨rfl, hq4⟩
        have hs4 := hq4.size
        have hr4 := HAX.out.trans (hq4.mono hsX)
        have HR4 := Lib.hid hr4
        have HX4 := Lib.hid ((hq4.block _ (blk_lt HX.out)).trans HX.out)
        have hb4 := hbase.trans (hr4.mono hwr)
        have HB4 := Lib.hid hb4
        have hxlt := blk_lt HX.out
        have hsz4 := hr4.size
        clear HX hq4 hr4 HAX
        obtain ⟨b, hbb⟩ : ∃ b, oneOf x = b := ⟨_, rfl⟩
        rw [hbb]
        cases b
        · skip
          have HN : Hid (FaultI w g1 g2 t l L (k + 1) w4) := Lib.hid (by
            obtain ⟨S1, S2, f, h, h1, h2, h3, h4, h5, h6, h7, h8, h9, h10, h11, h12, h13⟩ := HI.out
            have htk := HTK.out
            exact ⟨S1, S2, f, h, h1.below HR4.out, h2.below HR4.out, h3, fun j hj => ⟨(h4 j hj).1, by have := (h4 j hj).2; omega⟩, fun j hj => ⟨(h5 j hj).1, by have := (h5 j hj).2; omega⟩, h6, h7, h8, h9, by omega, by omega, by omega, HB4.out⟩)
          clear hbb
          go_wp2_with fail
          go_roundw
          case rel => exact ⟨k + 1, by omega, by go_num, HN⟩
          case measure => simp [RowKit.intOf]; omega
        · skip
          have HBB := Lib.hid hbb
          clear hbb
          obtain ⟨S1, S2, f, h, h1, h2, h3, h4, h5, h6, h7, h8, h9, h10, h11, h12, h13⟩ := HI.out
          have H1 := Lib.hid (h1.below HR4.out)
          have H2 := Lib.hid (h2.below HR4.out)
          have H6 := Lib.hid h6
          have H7 := Lib.hid h7
          have H8 := Lib.hid h8
          have H9 := Lib.hid h9
          have hsl := HSL.out
          have hfb : f.tree.bulk ≤ 100000000 := by omega
          have hhb : h.tree.bulk ≤ 100000000 := by rw [← h6]; omega
          have hfl : f.trace.length ≤ 1000000 := by omega
          have hhl : h.trace.length ≤ 1000000 := by omega
          clear h1 h2 h6 h7 h8 h9 h13 hbase hsl
          go_wp2_with fail
          refine (calls_in w4 g1 S1 f H1.out).mono ?_
          rintro e w5 ⟨rfl, rfl⟩
          have e0 := cell_of (j := 0) HX4.out rfl
          have e1 := cell_of (j := 1) HX4.out rfl
          have e2 := cell_of (j := 2) HX4.out rfl
          have e3 := cell_of (j := 3) HX4.out rfl
          go_wp2_with fail
          clear e0 e1 e2 e3
          have hFP := Lib.hid (Kd.F_below HP0.out HR4.out)
          have hFQ := Lib.hid (Kd.F_below HQ0.out HR4.out)
          obtain ⟨⟨f', a, why⟩, hdo⟩ : ∃ r, doV f x = r := ⟨_, rfl⟩
          have HDO := Lib.hid hdo
          have hc5 := do_in w5 g1 S1 f H1.out hfb hfl x A1 B1 c1 d1 (Kd.F_mono hFP.out fun j hj hS => by have := (h4 j hS).1; omega) hc1 hxp (Kd.F_mono hFQ.out fun j hj hS => by have := (h4 j hS).1; omega) hd1 hxq (by omega)
          rw [hdo] at hc5
          refine hc5.mono ?_
          clear hc5 hdo
          rintro e w6 ⟨rfl, hf6, ho6⟩
          have hs6 := ho6.size
          have HF6 := Lib.hid hf6
          have HO6 := Lib.hid ho6
          have HG6 := Lib.hid (H2.out.keep ho6 fun j hj hS => h3 j hS hj)
          have HX6 := Lib.hid ((ho6.block _ (by omega) (fun hS => by have := (h4 _ hS).2; omega)).trans HX4.out)
          have hb6 := HB4.out.trans ((ho6.below (B := w.heap.size) (by omega) (fun j hj hS => by have := (h4 j hS).1; omega)))
          have HB6 := Lib.hid hb6
          have hax := below_alloc (Below.refl w6.heap.size w6) (.cells #[.int .u8 a.kind, .int .i64 a.size, .string a.data] 52)
          have HA7 := Lib.hid (blk_new w6 (.cells #[.int .u8 a.kind, .int .i64 a.size, .string a.data] 52))
          have HAX7 := Lib.hid hax
          clear hf6 ho6 hax hb6
          go_wp2_with fail
          generalize (w6.alloc (.cells #[.int .u8 a.kind, .int .i64 a.size, .string a.data] 52)) = X7 at *
          have hs7 := HAX7.out.size
          have hxa := blk_lt HA7.out
          have hb7 := HB6.out.trans (HAX7.out.mono HB6.out.size)
          have HB7 := Lib.hid hb7
          obtain ⟨n, hn⟩ : ∃ n, f.trace.length = n := ⟨_, rfl⟩
          have HNN := Lib.hid hn
          have hnk : n ≤ k := by omega
          rw [hn]
          clear hn hb7
          go_loop [16, 17] (fun v i => ∃ m : Nat, m ≤ l.length ∧ i = .int .i64 m ∧ v = .bool (decide ((n : Int) ∈ l.take m))) (fun _ i => l.length - (RowKit.intOf i).toNat)
          case atStart => exact ⟨0, by omega, rfl, by simp⟩
          case round =>
            obtain ⟨m, hm, rfl, rfl⟩ := hrel
            by_cases q2 : m < l.length
            · obtain ⟨ad2, rfl, hx⟩ := Kd.at_int HF.out (m : Int) (by omega) (by omega)
              rw [Int.toNat_natCast] at hx
              have hx2 := (HB7.out.cell (World.block_lt_of_cell? w _ hx)).trans hx
              have hrd : rd l (m : Int) = l[m] := by simp [rd, q2]
              rw [hrd] at hx2
              have HMT := Lib.hid (mem_take_succ q2 (n : Int))
              clear hx hrd
              generalize l[m] = z at *
              obtain ⟨b1, hb1⟩ : ∃ b, decide ((n : Int) ∈ l.take m) = b := ⟨_, rfl⟩
              rw [hb1] at HMT ⊢
              clear hb1
              have g2' : (m : Int) < (l.length : Int) := by omega
              obtain ⟨b2, hb2⟩ : ∃ b, decide (z = (n : Int)) = b := ⟨_, rfl⟩
              rw [hb2] at HMT
              have hz : (z == (n : Int)) = b2 := by rw [← hb2]; rfl
              clear hb2
              cases b1
              · skip
                go_wp2_with fail
                go_round
                case rel => exact ⟨m + 1, by omega, by go_num, by rw [HMT.out]; simp⟩
                case measure => simp [RowKit.intOf]; omega
              · skip
                go_wp2_with fail
                go_round
                case rel => exact ⟨m + 1, by omega, by go_num, by rw [HMT.out]; simp⟩
                case measure => simp [RowKit.intOf]; omega
            · obtain rfl : m = l.length := by omega
              rw [List.take_length]
              obtain ⟨b, hb⟩ : ∃ b, decide ((n : Int) ∈ l) = b := ⟨_, rfl⟩
              have HBM := Lib.hid hb
              rw [hb]
              clear hb
              have HX7 := Lib.hid ((HAX7.out.block _ (blk_lt HX6.out)).trans HX6.out)
              have HG7 := Lib.hid (HG6.out.below HAX7.out)
              have HF7 := Lib.hid (HF6.out.below HAX7.out)
              have hmv7 : ∀ j, j < w.heap.size → X7.heap[j]? = w.heap[j]? := fun j hj => HB7.out.block j hj
              have HP7 := Lib.hid (Kd.F_step hFP.out (W1 := X7) fun j hj _ => (hmv7 j hj).trans (HB4.out.block j hj).symm)
              have HQ7 := Lib.hid (Kd.F_step hFQ.out (W1 := X7) fun j hj _ => (hmv7 j hj).trans (HB4.out.block j hj).symm)
              have HX8 := HX7
              have HGF := Lib.hid (do_grows f x H9.out)
              rw [HDO.out] at HGF
              clear hmv7
              cases b
              · skip
                have HNO := Lib.hid (show ¬ ((f.trace.length : Int) ∈ f.faults ∧ (doV f x).1.trace.length = f.trace.length + 1) from fun hh => by
                  have h0 := hh.1
                  rw [HNN.out, H7.out] at h0
                  exact absurd h0 (of_decide_eq_false HBM.out))
                have e0 := cell_of (j := 0) HX8.out rfl
                have e1 := cell_of (j := 1) HX8.out rfl
                have e2 := cell_of (j := 2) HX8.out rfl
                have e3 := cell_of (j := 3) HX8.out rfl
                go_wp2_with fail
                clear e0 e1 e2 e3
                have hds := do_same (g := h) HBB.out H6.out H8.out HNO.out
                rw [HDO.out] at hds
                obtain ⟨⟨h', a', why'⟩, hdo⟩ : ∃ r, doV h x = r := ⟨_, rfl⟩
                have hc8 := do_in X7 g2 S2 h HG7.out hhb hhl x A1 B1 c1 d1 (Kd.F_mono HP7.out fun j hj hS => by have := (h5 j hS).1; omega) hc1 hxp (Kd.F_mono HQ7.out fun j hj hS => by have := (h5 j hS).1; omega) hd1 hxq (by omega)
                rw [hdo] at hc8 hds
                simp only at hds hc8
                obtain ⟨he, hw, htr⟩ := hds
                injection he with hea hew
                subst hea hew
                refine hc8.mono ?_
                have HGR := Lib.hid (do_grows h x (by rw [← H6.out]; exact H9.out))
                rw [hdo] at HGR
                clear hc8 hdo
                rintro e w9 ⟨rfl, hf9, ho9⟩
                have hs9 := ho9.size
                have HA9 := Lib.hid ((ho9.block _ (by omega) (fun hS => by have := (h5 _ hS).2; omega)).trans HA7.out)
                have HI9 : Hid (∀ W, Below w9.heap.size w9 W → FaultI w g1 g2 t l L (k + 1) W) := Lib.hid (by
                  intro W hW
                  have hWs := hW.size
                  have htk := HTK.out
                  have hbW := (HB7.out.trans (ho9.below (B := w.heap.size) (by omega) (fun j hj hS => by have := (h5 j hS).1; omega)))
                  obtain ⟨q1, q2, q3, q4⟩ := HGF.out
                  obtain ⟨r1, r2, r3, r4⟩ := HGR.out
                  have hnn := HNN.out
                  simp only at q1 q2 q3 q4 r1 r2 r3 r4
                  refine ⟨Grown S1 w5 w6, Grown S2 X7 w9, f', h', ((HF6.out.below HAX7.out).keep ho9 ?_).below hW, hf9.below hW, ?_, ?_, ?_, htr, q4.trans H7.out, r4.trans H8.out, q1, by omega, by omega, by omega, hbW.trans (hW.mono hbW.size)⟩
                  · rintro j (hj | hj) hS
                    · exact h3 j hj hS
                    · have := (h5 j hS).2; omega
                  · rintro j (hj | hj) (hS | hS)
                    · exact h3 j hj hS
                    · have := (h4 j hj).2; omega
                    · have := (h5 j hS).2; omega
                    · omega
                  · rintro j (hj | hj)
                    · exact ⟨(h4 j hj).1, by have := (h4 j hj).2; omega⟩
                    · exact ⟨by omega, by omega⟩
                  · rintro j (hj | hj)
                    · exact ⟨(h5 j hj).1, by have := (h5 j hj).2; omega⟩
                    · exact ⟨by omega, by omega⟩)
                have HAX9 := Lib.hid (below_alloc (Below.refl w9.heap.size w9) (.cells #[.int .u8 a.kind, .int .i64 a.size, .string a.data] 52))
                have HB9 := Lib.hid (blk_new w9 (.cells #[.int .u8 a.kind, .int .i64 a.size, .string a.data] 52))
                have HA10 := Lib.hid ((HAX9.out.block _ (blk_lt HA9.out)).trans HA9.out)
                have z0 := cell_of (j := 0) HB9.out rfl
                have z1 := cell_of (j := 1) HB9.out rfl
                have z2 := cell_of (j := 2) HB9.out rfl
                have y0 := cell_of (j := 0) HA10.out rfl
                have y1 := cell_of (j := 1) HA10.out rfl
                have y2 := cell_of (j := 2) HA10.out rfl
                have hww : (why != why) = false := by simp
                have hw2 : (why == 42) = false := beq_eq_false_iff_ne.2 hw
                clear hf9 ho9 htr hw
                go_wp2_with fail
                go_roundw
                case rel => exact ⟨k + 1, by omega, by go_num, Lib.hid (HI9.out _ HAX9.out)⟩
                case measure => simp [RowKit.intOf]; omega
              · skip
                go_wp2_with fail
                refine (calls_in X7 g1 _ f' HF7.out).mono ?_
                rintro e w8 ⟨rfl, rfl⟩
                by_cases hq : f'.trace.length = n + 1
                · have hqb : ((f'.trace.length : Int) == ((n : Int) + 1)) = true := by rw [hq]; simp
                  have hdf := do_fault (f := f) HBB.out (by rw [HNN.out, H7.out]; exact of_decide_eq_true HBM.out) (by rw [HDO.out, HNN.out]; exact hq)
                  rw [HDO.out] at hdf
                  obtain ⟨hda, hdt⟩ := hdf
                  simp only at hda hdt
                  injection hda with hda hdw
                  subst hda hdw
                  have HI9 : Hid (FaultI w g1 g2 t l L (k + 1) w8) := Lib.hid (by
                    have htk := HTK.out
                    obtain ⟨q1, q2, q3, q4⟩ := HGF.out
                    have hnn := HNN.out
                    refine ⟨Grown S1 w5 w6, S2, f', h, HF7.out, HG7.out, ?_, ?_, fun j hj => ⟨(h5 j hj).1, by have := (h5 j hj).2; omega⟩, hdt.trans H6.out, q4.trans H7.out, H8.out, q1, by omega, by omega, by omega, HB7.out⟩
                    · rintro j (hj | hj) hS
                      · exact h3 j hj hS
                      · have := (h5 j hS).2; omega
                    · rintro j (hj | hj)
                      · exact ⟨(h4 j hj).1, by have := (h4 j hj).2; omega⟩
                      · exact ⟨by omega, by omega⟩)
                  have HA8 := Lib.hid (show w8.heap[w6.heap.size]? = some (Obj.cells #[.int .u8 0, .int .i64 0, .string ⟨#[]⟩] 52 (0, 0)) from HA7.out)
                  have y0 := cell_of (j := 0) HA8.out rfl
                  have y1 := cell_of (j := 1) HA8.out rfl
                  have y2 := cell_of (j := 2) HA8.out rfl
                  clear hdt
                  go_wp2_with fail
                  go_roundw
                  case rel => exact ⟨k + 1, by omega, by go_num, HI9⟩
                  case measure => simp [RowKit.intOf]; omega
                · have hqb : ((f'.trace.length : Int) == ((n : Int) + 1)) = false := beq_eq_false_iff_ne.2 (by omega)
                  have HNO := Lib.hid (show ¬ ((f.trace.length : Int) ∈ f.faults ∧ (doV f x).1.trace.length = f.trace.length + 1) from fun hh => by
                    have h0 := hh.2
                    rw [HDO.out, HNN.out] at h0
                    exact hq h0)
                  clear hq
                  have e0 := cell_of (j := 0) HX8.out rfl
                  have e1 := cell_of (j := 1) HX8.out rfl
                  have e2 := cell_of (j := 2) HX8.out rfl
                  have e3 := cell_of (j := 3) HX8.out rfl
                  go_wp2_with fail
                  clear e0 e1 e2 e3
                  have hds := do_same (g := h) HBB.out H6.out H8.out HNO.out
                  rw [HDO.out] at hds
                  obtain ⟨⟨h', a', why'⟩, hdo⟩ : ∃ r, doV h x = r := ⟨_, rfl⟩
                  have hc8 := do_in w8 g2 S2 h HG7.out hhb hhl x A1 B1 c1 d1 (Kd.F_mono HP7.out fun j hj hS => by have := (h5 j hS).1; omega) hc1 hxp (Kd.F_mono HQ7.out fun j hj hS => by have := (h5 j hS).1; omega) hd1 hxq (by omega)
                  rw [hdo] at hc8 hds
                  simp only at hds hc8
                  obtain ⟨he, hw, htr⟩ := hds
                  injection he with hea hew
                  subst hea hew
                  refine hc8.mono ?_
                  have HGR := Lib.hid (do_grows h x (by rw [← H6.out]; exact H9.out))
                  rw [hdo] at HGR
                  clear hc8 hdo
                  rintro e w9 ⟨rfl, hf9, ho9⟩
                  have hs9 := ho9.size
                  have HA9 := Lib.hid ((ho9.block _ (by omega) (fun hS => by have := (h5 _ hS).2; omega)).trans HA7.out)
                  have HI9 : Hid (∀ W, Below w9.heap.size w9 W → FaultI w g1 g2 t l L (k + 1) W) := Lib.hid (by
                    intro W hW
                    have hWs := hW.size
                    have htk := HTK.out
                    have hbW := (HB7.out.trans (ho9.below (B := w.heap.size) (by omega) (fun j hj hS => by have := (h5 j hS).1; omega)))
                    obtain ⟨q1, q2, q3, q4⟩ := HGF.out
                    obtain ⟨r1, r2, r3, r4⟩ := HGR.out
                    have hnn := HNN.out
                    simp only at q1 q2 q3 q4 r1 r2 r3 r4
                    refine ⟨Grown S1 w5 w6, Grown S2 w8 w9, f', h', ((HF6.out.below HAX7.out).keep ho9 ?_).below hW, hf9.below hW, ?_, ?_, ?_, htr, q4.trans H7.out, r4.trans H8.out, q1, by omega, by omega, by omega, hbW.trans (hW.mono hbW.size)⟩
                    · rintro j (hj | hj) hS
                      · exact h3 j hj hS
                      · have := (h5 j hS).2; omega
                    · rintro j (hj | hj) (hS | hS)
                      · exact h3 j hj hS
                      · have := (h4 j hj).2; omega
                      · have := (h5 j hS).2; omega
                      · omega
                    · rintro j (hj | hj)
                      · exact ⟨(h4 j hj).1, by have := (h4 j hj).2; omega⟩
                      · exact ⟨by omega, by omega⟩
                    · rintro j (hj | hj)
                      · exact ⟨(h5 j hj).1, by have := (h5 j hj).2; omega⟩
                      · exact ⟨by omega, by omega⟩)
                  have HAX9 := Lib.hid (below_alloc (Below.refl w9.heap.size w9) (.cells #[.int .u8 a.kind, .int .i64 a.size, .string a.data] 52))
                  have HB9 := Lib.hid (blk_new w9 (.cells #[.int .u8 a.kind, .int .i64 a.size, .string a.data] 52))
                  have HA10 := Lib.hid ((HAX9.out.block _ (blk_lt HA9.out)).trans HA9.out)
                  have z0 := cell_of (j := 0) HB9.out rfl
                  have z1 := cell_of (j := 1) HB9.out rfl
                  have z2 := cell_of (j := 2) HB9.out rfl
                  have y0 := cell_of (j := 0) HA10.out rfl
                  have y1 := cell_of (j := 1) HA10.out rfl
                  have y2 := cell_of (j := 2) HA10.out rfl
                  have hww : (why != why) = false := by simp
                  have hw2 : (why == 42) = false := beq_eq_false_iff_ne.2 hw
                  clear hf9 ho9 htr hw
                  go_wp2_with fail
                  go_roundw
                  case rel => exact ⟨k + 1, by omega, by go_num, Lib.hid (HI9.out _ HAX9.out)⟩
                  case measure => simp [RowKit.intOf]; omega
      · obtain rfl : k = L.length := by omega
        obtain ⟨S1, S2, f, h, h1, h2, h3, h4, h5, h6, h7, h8, h9, h10, h11, h12, h13⟩ := HI.out
        have hsl := HSL.out
        have hsk := steps_le L L.length
        have H2 := Lib.hid h2
        have HE := Lib.hid h6
        have hb := h13
        clear h7 h8 h9 h6 h2
        go_wp2_with fail
        refine (tree_in wr g1 S1 f h1 (by omega)).mono ?_
        rintro e w4 ⟨A4, c4, rfl, hc4, hR4, hq4⟩
        obtain ⟨_, _, hC4⟩ := Kd.R_reads' hR4
        have HC4 := Lib.hid hC4
        clear hR4 hC4
        unfold fileV
        have hb4 := bstep hb hb.size hq4
        go_wp2_with fail
        refine (tree_in w4 g2 S2 h (H2.out.below hq4) (by rw [← HE.out]; omega)).mono ?_
        rw [← HE.out]
        rintro e w5 ⟨A5, c5, rfl, hc5, hR5, hq5⟩
        obtain ⟨_, _, hC5⟩ := Kd.R_reads' hR5
        have HC5 := Lib.hid hC5
        clear hR5 hC5
        unfold fileV
        have hb5 := bstep hb4 hb4.size hq5
        go_wp2_with fail
        refine (show Calls Tryd.prog 14 #[.agg #[.string f.tree.name, .int .u8 f.tree.kind, .string f.tree.data, .slice A4 f.tree.files.length c4], .agg #[.string f.tree.name, .int .u8 f.tree.kind, .string f.tree.data, .slice A5 f.tree.files.length c5]] w5 _ from sameC f.tree A4 A5 c4 c5 w5 (by omega) (Kd.C_below HC4.out hq5) hc4 HC5.out hc5).mono ?_
        rintro e w6 ⟨rfl, hq6⟩
        have hb6 := bstep hb5 hb5.size hq6
        go_wp2_with fail
        go_ret
        exact ⟨rfl, hb6⟩
end Go.Proofs.YthlcjjhfkldmhaaDoor.G
