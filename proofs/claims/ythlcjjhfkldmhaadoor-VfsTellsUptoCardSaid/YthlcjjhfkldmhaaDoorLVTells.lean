/- The law VfsTells, walked. Printed by wip/tools/gen_lvtells.py. -/
import Derived.Test.YthlcjjhfkldmhaaDoorVTellP
import Derived.Test.YthlcjjhfkldmhaaDoorVSameC
import Derived.Test.YthlcjjhfkldmhaaDoorVBegins
import Derived.Test.YthlcjjhfkldmhaaDoorVStep
set_option linter.unusedVariables false
set_option linter.unusedSimpArgs false
namespace Go.Proofs.YthlcjjhfkldmhaaDoor.G
open Go.RowKit Go.Lib Go.Proofs.YthlcjjhfkldmhaaDoorW.PrintWords Go.Proofs.YthlcjjhfkldmhaaDoorW.PrintLast
set_option linter.unusedVariables false
set_option linter.unusedSimpArgs false

/-- A file system and what is wanted of its trace, behind k steps. -/
def TellI (w : World) (g : Nat) (t : File) (L : List Step) (k : Nat) (wr : World) (v : Value) : Prop :=
  ∃ (S : Nat → Prop) (f : FsV), FsIn S wr g f ∧ (∀ j, S j → w.heap.size ≤ j ∧ j < wr.heap.size) ∧ Kd.N CallK 59 wr w.heap.size (fun j => ¬ S j) v f.trace ∧
    rightT f.tree = true ∧ f.tree.bulk ≤ t.bulk + 259 * k + stepsB (L.take k) ∧ f.trace.length ≤ k ∧ shortT f.trace ∧ Below w.heap.size w wr
theorem steps_takeT {L : List Step} {k : Nat} (hk : k < L.length) : stepsB (L.take (k + 1)) = stepsB (L.take k) + stepB L[k] := by
  rw [List.take_succ_eq_append_getElem hk]
  simp only [stepsB, List.map_append, List.map_cons, List.map_nil, List.sum_append, List.sum_cons, List.sum_nil]
  omega
theorem steps_leT (L : List Step) (k : Nat) : stepsB (L.take k) ≤ stepsB L := by
  have h : stepsB L = stepsB (L.take k) + stepsB (L.drop k) := by
    have h0 := congrArg stepsB (List.take_append_drop k L)
    rw [← h0]
    simp only [stepsB, List.map_append, List.sum_append]
  omega
/-- A row that is read beside a region: through a change of that region. -/
theorem N_over {α : Type} {d : Kd α} {e base : Nat} {w W W' : World} {S : Nat → Prop} {v : Value} {xs : List α} (h : Kd.N d e W base (fun j => ¬ S j) v xs) (ho : Only S W W') : Kd.N d e W' base (fun j => ¬ Grown S W W' j) v xs :=
  Kd.N_mono (Kd.N_step (Kd.N_bound h) fun k hk hl => ho.block k hl hk.1) fun k hk hg => hg.elim hk.1 fun h => by have := hk.2; omega
set_option maxHeartbeats 8000000 in
set_option maxRecDepth 100000 in
theorem lvtells_calls (t : File) (A : Option Addr) (c : Nat) (Al : Option Addr) (cl : Nat) (l : List Int) (AL : Option Addr) (cL : Nat) (L : List Step) (w : World) (ht : FileK.C w A t.files.length t.files) (hc : t.files.length ≤ c) (hbt : t.bulk ≤ 1048576) (hl : Kd.C (Kd.int .i64) w Al l.length l) (hcl : l.length ≤ cl) (hll : l.length ≤ 1048576) (hL : StepK.C w AL L.length L) (hcL : L.length ≤ cL) (hsl : stepsB L ≤ 1048576) :
    Calls Tryd.prog 5 #[fileV t A c, .slice Al l.length cl, .slice AL L.length cL] w fun e w' => e = .returned (.bool true) ∧ Below w.heap.size w w' := by
  have HT := Lib.hid ht
  have HL := Lib.hid hL
  have HF := Lib.hid hl
  have HSL := Lib.hid hsl
  have hlen := steps_len L
  have hLb : L.length ≤ 209715 := by omega
  have hax := below_alloc (Below.refl w.heap.size w) (.cells #[.string t.name, .int .u8 t.kind, .string t.data, .slice A t.files.length c] 25)
  have HX0 := Lib.hid (blk_new w (.cells #[.string t.name, .int .u8 t.kind, .string t.data, .slice A t.files.length c] 25))
  have HAX := Lib.hid hax
  clear ht hL hl hsl hax
  go_enter Tryd.func5, Tryd.ntmps5
  unfold fileV
  go_wp2_with fail
  generalize (w.alloc (.cells #[.string t.name, .int .u8 t.kind, .string t.data, .slice A t.files.length c] 25)) = W0 at *
  have hs0 := HAX.out.size
  refine (begins_calls W0).mono ?_
  rintro e w1 ⟨rfl, hq1⟩
  have hb1 := HAX.out.trans (hq1.mono hs0)
  have hs1 := hq1.size
  have HX1 := Lib.hid ((hq1.block _ (blk_lt HX0.out)).trans HX0.out)
  have l0 := cell_of (j := 0) HX1.out rfl
  have l1 := cell_of (j := 1) HX1.out rfl
  have l2 := cell_of (j := 2) HX1.out rfl
  have l3 := cell_of (j := 3) HX1.out rfl
  go_wp2_with fail
  clear l0 l1 l2 l3
  refine (show Calls Tryd.prog 19 #[.agg #[.string t.name, .int .u8 t.kind, .string t.data, .slice A t.files.length c], .slice Al l.length cl] w1 _ from new_in t A c Al cl l w1 (Kd.C_below HT.out hb1) hc (by omega) (Kd.C_below HF.out hb1) hcl (by omega)).mono ?_
  rintro e w2 (⟨hr, rfl, hq2⟩ | ⟨hr, g1, rfl, hf, hq2⟩)
  · have hb2 := hb1.trans (hq2.mono hb1.size)
    go_wp2_with fail
    go_ret
    exact ⟨rfl, hb2⟩
  have hb2 := hb1.trans (hq2.mono hb1.size)
  have hs2 := hq2.size
  have hwz := hb1.size
  have HI0 : Hid (TellI w g1 t L 0 w2 (.slice none 0 0)) := Lib.hid ⟨_, _, hf, fun j h => ⟨by have := h.1; omega, h.2⟩, Kd.N_nil _ _ _ _ _, hr, by show t.bulk ≤ _; omega, Nat.le_refl _, (fun x hx => by cases hx), hb2⟩
  clear hf hb1 hb2 hq1 hq2 HX0 HX1 HAX
  go_wp2_with fail
  go_loopw [9, 10] (fun v i wr => ∃ k : Nat, k ≤ L.length ∧ i = .int .i64 k ∧ Hid (TellI w g1 t L k wr v)) (fun _ i _ => L.length - (RowKit.intOf i).toNat)
  case atStart => exact ⟨0, by omega, rfl, HI0⟩
  case round =>
    clear HI0
    generalize u9 = v at *
    obtain ⟨k, hk, rfl, HI⟩ := hrel
    have hbase : Below w.heap.size w wr := by
      obtain ⟨_, _, _, _, _, _, _, _, _, hb⟩ := HI.out
      exact hb
    by_cases q1 : k < L.length
    · obtain ⟨ad, A1, c1, B1, d1, rfl, p0, p1, p2, p3, hc1, HP, hd1, HQ⟩ := step_at HL.out hbase k q1
      have hsb := stepB_mem (List.getElem_mem q1)
      have HTK := Lib.hid (steps_takeT q1)
      have hsk := steps_leT L k
      generalize L[k] = x at *
      have HP0 := Lib.hid HP
      have HQ0 := Lib.hid HQ
      have hsl := HSL.out
      have hxp : P.sumP x.path ≤ 1099511627776 := by unfold stepB at hsb; have : P.sumP x.path = sumP x.path := rfl; omega
      have hxq : P.sumP x.dest ≤ 1099511627776 := by unfold stepB at hsb; have : P.sumP x.dest = sumP x.dest := rfl; omega
      have hxd : x.data.size ≤ 1048576 := by unfold stepB at hsb; omega
      have hxs : x.data.size + 5 ≤ stepB x := by unfold stepB; omega
      have hxpl := P.sumP_len x.path
      have hxql := P.sumP_len x.dest
      have hwr := hbase.size
      have hax := below_alloc (Below.refl wr.heap.size wr) (.cells #[.int .u8 x.kind, .slice A1 x.path.length c1, .slice B1 x.dest.length d1, .string x.data] 46)
      have HX := Lib.hid (blk_new wr (.cells #[.int .u8 x.kind, .slice A1 x.path.length c1, .slice B1 x.dest.length d1, .string x.data] 46))
      have HAX := Lib.hid hax
      have g1' : (k : Int) < (L.length : Int) := by omega
      have e0 := cell_of (j := 0) HX.out rfl
      have e1 := cell_of (j := 1) HX.out rfl
      have e2 := cell_of (j := 2) HX.out rfl
      have e3 := cell_of (j := 3) HX.out rfl
      clear HP HQ hsl hax
      go_wp2_with fail
      clear e0 e1 e2 e3 p0 p1 p2 p3
      generalize (wr.alloc (.cells #[.int .u8 x.kind, .slice A1 x.path.length c1, .slice B1 x.dest.length d1, .string x.data] 46)) = X1 at *
      have hsX := HAX.out.size
      refine (isCall_calls x A1 B1 c1 d1 X1).mono ?_
      rintro e w4 ⟨rfl, hq4⟩
      have hs4 := hq4.size
      have hr4 := HAX.out.trans (hq4.mono hsX)
      have HR4 := Lib.hid hr4
      have HX4 := Lib.hid ((hq4.block _ (blk_lt HX.out)).trans HX.out)
      have hb4 := hbase.trans (hr4.mono hwr)
      have HB4 := Lib.hid hb4
      have hxlt := blk_lt HX.out
      have hsz4 := hr4.size
      clear HX hq4 hr4 HAX
      obtain ⟨b, hbb⟩ : ∃ b, oneOf x = b := ⟨_, rfl⟩
      rw [hbb]
      cases b
      · skip
        have HN : Hid (TellI w g1 t L (k + 1) w4 v) := Lib.hid (by
          obtain ⟨S, f, h1, h4, h5, h6, h7, h8, h9, h10⟩ := HI.out
          have htk := HTK.out
          exact ⟨S, f, h1.below HR4.out, fun j hj => ⟨(h4 j hj).1, by have := (h4 j hj).2; omega⟩, Kd.N_below h5 HR4.out, h6, by omega, by omega, h9, HB4.out⟩)
        clear hbb
        go_wp2_with fail
        go_roundw
        case rel => exact ⟨k + 1, by omega, by go_num, HN⟩
        case measure => simp [RowKit.intOf]; omega
      · skip
        have HBB := Lib.hid hbb
        clear hbb
        obtain ⟨S, f, h1, h4, h5, h6, h7, h8, h9, h10⟩ := HI.out
        have H1 := Lib.hid (h1.below HR4.out)
        have HN4 := Lib.hid (Kd.N_below h5 HR4.out)
        have H9 := Lib.hid h6
        have hsl := HSL.out
        have hfb : f.tree.bulk ≤ 100000000 := by omega
        have hfl : f.trace.length ≤ 1000000 := by omega
        clear h1 h5 h6 h10 hbase hsl
        have e0 := cell_of (j := 0) HX4.out rfl
        have e1 := cell_of (j := 1) HX4.out rfl
        have e2 := cell_of (j := 2) HX4.out rfl
        have e3 := cell_of (j := 3) HX4.out rfl
        go_wp2_with fail
        clear e0 e1 e2 e3
        have hFP := Lib.hid (Kd.F_below HP0.out HR4.out)
        have hFQ := Lib.hid (Kd.F_below HQ0.out HR4.out)
        obtain ⟨⟨f', a, why⟩, hdo⟩ : ∃ r, doV f x = r := ⟨_, rfl⟩
        have HDO := Lib.hid hdo
        have hc5 := do_in w4 g1 S f H1.out hfb hfl x A1 B1 c1 d1 (Kd.F_mono hFP.out fun j hj hS => by have := (h4 j hS).1; omega) hc1 hxp (Kd.F_mono hFQ.out fun j hj hS => by have := (h4 j hS).1; omega) hd1 hxq (by omega)
        rw [hdo] at hc5
        refine hc5.mono ?_
        clear hc5 hdo
        rintro e w6 ⟨rfl, hf6, ho6⟩
        have hs6 := ho6.size
        have HF6 := Lib.hid hf6
        have HX6 := Lib.hid ((ho6.block _ (by omega) (fun hS => by have := (h4 _ hS).2; omega)).trans HX4.out)
        have hb6 := HB4.out.trans ((ho6.below (B := w.heap.size) (by omega) (fun j hj hS => by have := (h4 j hS).1; omega)))
        have HB6 := Lib.hid hb6
        have HN6 := Lib.hid (N_over (w := w) HN4.out ho6)
        have hax := below_alloc (Below.refl w6.heap.size w6) (.cells #[.int .u8 a.kind, .int .i64 a.size, .string a.data] 52)
        have HAX7 := Lib.hid hax
        clear hf6 ho6 hax hb6
        by_cases hw : why = 20
        · obtain rfl := hw
          obtain ⟨X7, hX7⟩ : ∃ W, w6.alloc (.cells #[.int .u8 a.kind, .int .i64 a.size, .string a.data] 52) = W := ⟨_, rfl⟩
          rw [hX7] at HAX7
          have hs7 := HAX7.out.size
          have HB7 := Lib.hid (HB6.out.trans (HAX7.out.mono HB6.out.size))
          have HF8 := Lib.hid (HF6.out.below HAX7.out)
          have HX8 := Lib.hid ((HAX7.out.block _ (blk_lt HX6.out)).trans HX6.out)
          have HB8 := HB7
          have HN8 := Lib.hid (Kd.N_below HN6.out HAX7.out)
          have HGS : Hid (∀ j, Grown S w4 w6 j → w.heap.size ≤ j ∧ j < X7.heap.size) := Lib.hid (fun j hj => hj.elim (fun hj => ⟨(h4 j hj).1, by have := (h4 j hj).2; omega⟩) (fun hj => ⟨by omega, by omega⟩))
          have HGF := Lib.hid (do_grows f x H9.out)
          rw [HDO.out] at HGF
          have hmv7 : ∀ j, j < w.heap.size → X7.heap[j]? = w.heap[j]? := fun j hj => HB7.out.block j hj
          have HP8 := Lib.hid (Kd.F_step hFP.out (W1 := X7) fun j hj _ => (hmv7 j hj).trans (HB4.out.block j hj).symm)
          have HQ8 := Lib.hid (Kd.F_step hFQ.out (W1 := X7) fun j hj _ => (hmv7 j hj).trans (HB4.out.block j hj).symm)
          clear hmv7
          have e0 := cell_of (j := 0) HX8.out rfl
          have e1 := cell_of (j := 1) HX8.out rfl
          have e2 := cell_of (j := 2) HX8.out rfl
          go_wp2_with fail
          clear e0 e1 e2
          refine (P.rright_calls A1 c1 x.path X7 (Kd.F_now HP8.out) hc1 (by omega) (by omega)).mono ?_
          rintro e w8 ⟨rfl, rfl⟩
          obtain ⟨b1, hb1⟩ : ∃ b, P.rightB x.path = b := ⟨_, rfl⟩
          have HB1 := Lib.hid hb1
          rw [hb1]
          clear hb1
          cases b1
          · have HUN := Lib.hid (show ¬ fitS x from fun h => absurd (h.1.symm.trans HB1.out) (by decide))
            have HN : Hid (TellI w g1 t L (k + 1) w8 v) := Lib.hid (by
              have htk := HTK.out
              obtain ⟨q1, q2, q3, q4⟩ := HGF.out
              obtain ⟨hu, _⟩ := tell_unfit HBB.out HUN.out
              rw [HDO.out] at hu
              simp only at hu q1 q2 q3 q4
              exact ⟨Grown S w4 w6, f', HF8.out, HGS.out, by rw [hu]; exact HN8.out, q1, by omega, by rw [hu]; omega, by rw [hu]; exact h9, HB8.out⟩)
            go_wp2_with fail
            go_roundw
            case rel => exact ⟨k + 1, by omega, by go_num, HN⟩
            case measure => simp [RowKit.intOf]; omega
          by_cases hkf : x.kind = 5
          rotate_left
          · have HK5 := Lib.hid (show (x.kind == 5) = false from beq_eq_false_iff_ne.2 hkf)
            have k5b : (x.kind == 5) = false := HK5.out
            have HFIT := Lib.hid (show fitS x from ⟨HB1.out, fun h => absurd h hkf⟩)
            have HTE := Lib.hid (show f'.trace = f.trace ++ [⟨x.kind, x.path, [], 20⟩] from by
              have h := tell_fit (f := f) HBB.out HFIT.out
              rw [HDO.out] at h
              rw [if_neg hkf] at h
              exact h)
            have HXC := Lib.hid (blk_new w8 (.cells #[.int .u8 x.kind, .slice A1 x.path.length c1, .slice none 0 0, .int .i64 20] 59))
            have hac := below_alloc (Below.refl w8.heap.size w8) (.cells #[.int .u8 x.kind, .slice A1 x.path.length c1, .slice none 0 0, .int .i64 20] 59)
            have HFC := Lib.hid (HF8.out.below hac)
            have HNC := Lib.hid (Kd.N_below HN8.out hac)
            have HBC := Lib.hid (HB8.out.trans (hac.mono HB8.out.size))
            have HXX := Lib.hid ((hac.block _ (blk_lt HX8.out)).trans HX8.out)
            have HPC := Lib.hid (Kd.F_below HP8.out hac)
            have HQC := Lib.hid (Kd.F_below HQ8.out hac)
            have hsc := hac.size
            clear hac hkf
            obtain ⟨X9, hX9⟩ : ∃ W, w8.alloc (.cells #[.int .u8 x.kind, .slice A1 x.path.length c1, .slice none 0 0, .int .i64 20] 59) = W := ⟨_, rfl⟩
            rw [hX9] at HXC HFC HNC HBC HXX HPC HQC hsc
            have HFK := Lib.hid (show Kd.FK CallK X9 (fun j => j < w.heap.size) ⟨x.kind, x.path, [], 20⟩ [.int .u8 x.kind, .slice A1 x.path.length c1, .slice none 0 0, .int .i64 20] from fun W' hW => ⟨[.int .u8 x.kind], [.slice A1 x.path.length c1, .slice none 0 0, .int .i64 20], rfl, rfl, ⟨[.slice A1 x.path.length c1], [.slice none 0 0, .int .i64 20], rfl, ⟨A1, c1, rfl, hc1, HPC.out W' hW⟩, ⟨[.slice none 0 0], [.int .i64 20], rfl, ⟨none, 0, rfl, Nat.le_refl _, Kd.C_nil _ _⟩, rfl⟩⟩⟩)
            have e0 := cell_of (j := 0) HX8.out rfl
            have e1 := cell_of (j := 1) HX8.out rfl
            have e2 := cell_of (j := 2) HX8.out rfl
            have y0 := cell_of (j := 0) HXX.out rfl
            have y1 := cell_of (j := 1) HXX.out rfl
            have y2 := cell_of (j := 2) HXX.out rfl
            have n0 := cell_of (j := 0) HXC.out rfl
            have n1 := cell_of (j := 1) HXC.out rfl
            have n2 := cell_of (j := 2) HXC.out rfl
            have n3 := cell_of (j := 3) HXC.out rfl
            have k5b : (x.kind == 5) = false := HK5.out
            go_wp2_with (at_builtin; refine Kd.N_append CallK (w0 := w) w.heap.size rfl (.tmp 77) (.tmp 79) 57 59 (.agg #[.int .u8 0, .slice none 0 0, .slice none 0 0, .int .i64 0]) 64 rfl Tryd.underlying57 info_call rfl (by decide) (by decide) v f.trace ⟨x.kind, x.path, [], 20⟩ [.int .u8 x.kind, .slice A1 x.path.length c1, .slice none 0 0, .int .i64 20] (fun j => ¬ Grown S w4 w6 j) (fun j => j < w.heap.size) rfl rfl ?aP ?aK ?aF ?aO ?aB ?aS ?aL ?_; (case aP => exact HFK.out); (case aK => exact fun j hj => ⟨fun h => by have := (HGS.out j h).1; omega, fun e => by have := Kd.N_base HNC.out j e.symm; omega⟩); (case aF => exact fun j hj h => by have := (HGS.out j h).2; omega); (case aO => exact HNC.out); (case aB => exact HBC.out); (case aS => exact HBC.out.size); (case aL => omega); intro v1 w11 hn1 hb11 hg11 hat11; have HN11 := Lib.hid hn1; have HB11 := Lib.hid hb11; have hs11 := hg11.size; have HF11 := Lib.hid (HFC.out.keep (Only.grown_of hg11) fun j hj e => HNC.out.1 j e hj))
            clear e0 e1 e2 y0 y1 y2 n0 n1 n2 n3
            refine (calls_in w11 g1 _ f' HF11.out).mono ?_
            rintro e w12 ⟨rfl, rfl⟩
            obtain ⟨D, cD, rfl⟩ := Kd.N_slice hn1
            have hlx : ((f'.trace.length : Int) != ((f.trace ++ [(⟨x.kind, x.path, [], 20⟩ : Call)]).length : Int)) = false := by rw [HTE.out]; simp
            have hlx2 : (f.trace ++ [(⟨x.kind, x.path, [], 20⟩ : Call)]).length = f.trace.length + 1 := by simp
            have HN : Hid (TellI w g1 t L (k + 1) w12 (.slice D (f.trace ++ [(⟨x.kind, x.path, [], 20⟩ : Call)]).length cD)) := Lib.hid (by
              have htk := HTK.out
              obtain ⟨q1, q2, q3, q4⟩ := HGF.out
              have hsh := do_short (f := f) (x := x) h9
              rw [HDO.out] at hsh
              refine ⟨Grown S w4 w6, f', HF11.out, fun j hj => ⟨(HGS.out j hj).1, by have := (HGS.out j hj).2; omega⟩, by rw [HTE.out]; exact HN11.out, q1, by omega, by omega, hsh, HB11.out⟩)
            clear hn1 hb11 hg11 hat11 hX9
            rw [hlx2] at HN hlx ⊢
            go_wp2_with fail
            go_roundw
            case rel => exact ⟨k + 1, by omega, by go_num, HN⟩
            case measure => simp [RowKit.intOf]; omega
          have HK5 := Lib.hid (show (x.kind == 5) = true from beq_iff_eq.2 hkf)
          have k5b : (x.kind == 5) = true := HK5.out
          have e0 := cell_of (j := 0) HX8.out rfl
          have e1 := cell_of (j := 1) HX8.out rfl
          have e2 := cell_of (j := 2) HX8.out rfl
          go_wp2_with fail
          clear e0 e1 e2
          refine (P.rright_calls B1 d1 x.dest w8 (Kd.F_now HQ8.out) hd1 (by omega) (by omega)).mono ?_
          rintro e w10 ⟨rfl, rfl⟩
          obtain ⟨b2, hb2⟩ : ∃ b, P.rightB x.dest = b := ⟨_, rfl⟩
          have HB2 := Lib.hid hb2
          rw [hb2]
          clear hb2
          cases b2
          · have HUN := Lib.hid (show ¬ fitS x from fun h => absurd ((h.2 hkf).symm.trans HB2.out) (by decide))
            have HN : Hid (TellI w g1 t L (k + 1) w10 v) := Lib.hid (by
              have htk := HTK.out
              obtain ⟨q1, q2, q3, q4⟩ := HGF.out
              obtain ⟨hu, _⟩ := tell_unfit HBB.out HUN.out
              rw [HDO.out] at hu
              simp only at hu q1 q2 q3 q4
              exact ⟨Grown S w4 w6, f', HF8.out, HGS.out, by rw [hu]; exact HN8.out, q1, by omega, by rw [hu]; omega, by rw [hu]; exact h9, HB8.out⟩)
            go_wp2_with fail
            go_roundw
            case rel => exact ⟨k + 1, by omega, by go_num, HN⟩
            case measure => simp [RowKit.intOf]; omega
          have HFIT := Lib.hid (show fitS x from ⟨HB1.out, fun _ => HB2.out⟩)
          have HTE := Lib.hid (show f'.trace = f.trace ++ [⟨x.kind, x.path, x.dest, 20⟩] from by
            have h := tell_fit (f := f) HBB.out HFIT.out
            rw [HDO.out] at h
            rw [if_pos hkf] at h
            exact h)
          have HXC := Lib.hid (blk_new w10 (.cells #[.int .u8 x.kind, .slice A1 x.path.length c1, .slice B1 x.dest.length d1, .int .i64 20] 59))
          have hac := below_alloc (Below.refl w10.heap.size w10) (.cells #[.int .u8 x.kind, .slice A1 x.path.length c1, .slice B1 x.dest.length d1, .int .i64 20] 59)
          have HFC := Lib.hid (HF8.out.below hac)
          have HNC := Lib.hid (Kd.N_below HN8.out hac)
          have HBC := Lib.hid (HB8.out.trans (hac.mono HB8.out.size))
          have HXX := Lib.hid ((hac.block _ (blk_lt HX8.out)).trans HX8.out)
          have HPC := Lib.hid (Kd.F_below HP8.out hac)
          have HQC := Lib.hid (Kd.F_below HQ8.out hac)
          have hsc := hac.size
          clear hac hkf
          have HZC := Lib.hid (blk_new w10 (.cells #[.int .u8 x.kind, .slice A1 x.path.length c1, .slice none 0 0, .int .i64 20] 59))
          have HZX := Lib.hid (((below_alloc (Below.refl w10.heap.size w10) (.cells #[.int .u8 x.kind, .slice A1 x.path.length c1, .slice none 0 0, .int .i64 20] 59)).block _ (blk_lt HX8.out)).trans HX8.out)
          have m0 := cell_of (j := 0) HZX.out rfl
          have m1 := cell_of (j := 1) HZX.out rfl
          have m2 := cell_of (j := 2) HZX.out rfl
          have r2 := cell_of (j := 2) HZC.out rfl
          have rf2 := unfr HZC.out 2
          obtain ⟨X9, hX9⟩ : ∃ W, w10.alloc (.cells #[.int .u8 x.kind, .slice A1 x.path.length c1, .slice B1 x.dest.length d1, .int .i64 20] 59) = W := ⟨_, rfl⟩
          rw [hX9] at HXC HFC HNC HBC HXX HPC HQC hsc
          have HFK := Lib.hid (show Kd.FK CallK X9 (fun j => j < w.heap.size) ⟨x.kind, x.path, x.dest, 20⟩ [.int .u8 x.kind, .slice A1 x.path.length c1, .slice B1 x.dest.length d1, .int .i64 20] from fun W' hW => ⟨[.int .u8 x.kind], [.slice A1 x.path.length c1, .slice B1 x.dest.length d1, .int .i64 20], rfl, rfl, ⟨[.slice A1 x.path.length c1], [.slice B1 x.dest.length d1, .int .i64 20], rfl, ⟨A1, c1, rfl, hc1, HPC.out W' hW⟩, ⟨[.slice B1 x.dest.length d1], [.int .i64 20], rfl, ⟨B1, d1, rfl, hd1, HQC.out W' hW⟩, rfl⟩⟩⟩)
          have e0 := cell_of (j := 0) HX8.out rfl
          have e1 := cell_of (j := 1) HX8.out rfl
          have e2 := cell_of (j := 2) HX8.out rfl
          have y0 := cell_of (j := 0) HXX.out rfl
          have y1 := cell_of (j := 1) HXX.out rfl
          have y2 := cell_of (j := 2) HXX.out rfl
          have n0 := cell_of (j := 0) HXC.out rfl
          have n1 := cell_of (j := 1) HXC.out rfl
          have n2 := cell_of (j := 2) HXC.out rfl
          have n3 := cell_of (j := 3) HXC.out rfl
          have k5b : (x.kind == 5) = true := HK5.out
          go_wp2_with (at_builtin; refine Kd.N_append CallK (w0 := w) w.heap.size rfl (.tmp 77) (.tmp 79) 57 59 (.agg #[.int .u8 0, .slice none 0 0, .slice none 0 0, .int .i64 0]) 64 rfl Tryd.underlying57 info_call rfl (by decide) (by decide) v f.trace ⟨x.kind, x.path, x.dest, 20⟩ [.int .u8 x.kind, .slice A1 x.path.length c1, .slice B1 x.dest.length d1, .int .i64 20] (fun j => ¬ Grown S w4 w6 j) (fun j => j < w.heap.size) rfl rfl ?aP ?aK ?aF ?aO ?aB ?aS ?aL ?_; (case aP => exact HFK.out); (case aK => exact fun j hj => ⟨fun h => by have := (HGS.out j h).1; omega, fun e => by have := Kd.N_base HNC.out j e.symm; omega⟩); (case aF => exact fun j hj h => by have := (HGS.out j h).2; omega); (case aO => exact HNC.out); (case aB => exact HBC.out); (case aS => exact HBC.out.size); (case aL => omega); intro v1 w11 hn1 hb11 hg11 hat11; have HN11 := Lib.hid hn1; have HB11 := Lib.hid hb11; have hs11 := hg11.size; have HF11 := Lib.hid (HFC.out.keep (Only.grown_of hg11) fun j hj e => HNC.out.1 j e hj))
          clear e0 e1 e2 y0 y1 y2 n0 n1 n2 n3
          refine (calls_in w11 g1 _ f' HF11.out).mono ?_
          rintro e w12 ⟨rfl, rfl⟩
          obtain ⟨D, cD, rfl⟩ := Kd.N_slice hn1
          have hlx : ((f'.trace.length : Int) != ((f.trace ++ [(⟨x.kind, x.path, x.dest, 20⟩ : Call)]).length : Int)) = false := by rw [HTE.out]; simp
          have hlx2 : (f.trace ++ [(⟨x.kind, x.path, x.dest, 20⟩ : Call)]).length = f.trace.length + 1 := by simp
          have HN : Hid (TellI w g1 t L (k + 1) w12 (.slice D (f.trace ++ [(⟨x.kind, x.path, x.dest, 20⟩ : Call)]).length cD)) := Lib.hid (by
            have htk := HTK.out
            obtain ⟨q1, q2, q3, q4⟩ := HGF.out
            have hsh := do_short (f := f) (x := x) h9
            rw [HDO.out] at hsh
            refine ⟨Grown S w4 w6, f', HF11.out, fun j hj => ⟨(HGS.out j hj).1, by have := (HGS.out j hj).2; omega⟩, by rw [HTE.out]; exact HN11.out, q1, by omega, by omega, hsh, HB11.out⟩)
          clear hn1 hb11 hg11 hat11 hX9
          rw [hlx2] at HN hlx ⊢
          go_wp2_with fail
          go_roundw
          case rel => exact ⟨k + 1, by omega, by go_num, HN⟩
          case measure => simp [RowKit.intOf]; omega
        · have hwb : (why == 20) = false := beq_eq_false_iff_ne.2 hw
          obtain ⟨X7, hX7⟩ : ∃ W, w6.alloc (.cells #[.int .u8 a.kind, .int .i64 a.size, .string a.data] 52) = W := ⟨_, rfl⟩
          rw [hX7] at HAX7
          have hs7 := HAX7.out.size
          have HB7 := Lib.hid (HB6.out.trans (HAX7.out.mono HB6.out.size))
          have HF8 := Lib.hid (HF6.out.below HAX7.out)
          have HX8 := Lib.hid ((HAX7.out.block _ (blk_lt HX6.out)).trans HX6.out)
          have HB8 := HB7
          have HN8 := Lib.hid (Kd.N_below HN6.out HAX7.out)
          have HGS : Hid (∀ j, Grown S w4 w6 j → w.heap.size ≤ j ∧ j < X7.heap.size) := Lib.hid (fun j hj => hj.elim (fun hj => ⟨(h4 j hj).1, by have := (h4 j hj).2; omega⟩) (fun hj => ⟨by omega, by omega⟩))
          have HGF := Lib.hid (do_grows f x H9.out)
          rw [HDO.out] at HGF
          have hmv7 : ∀ j, j < w.heap.size → X7.heap[j]? = w.heap[j]? := fun j hj => HB7.out.block j hj
          have HP8 := Lib.hid (Kd.F_step hFP.out (W1 := X7) fun j hj _ => (hmv7 j hj).trans (HB4.out.block j hj).symm)
          have HQ8 := Lib.hid (Kd.F_step hFQ.out (W1 := X7) fun j hj _ => (hmv7 j hj).trans (HB4.out.block j hj).symm)
          clear hmv7
          have HFIT := Lib.hid (show fitS x from by
            by_cases h : fitS x
            · exact h
            · have := (tell_unfit (f := f) HBB.out h).2
              rw [HDO.out] at this
              exact absurd this hw)
          clear hw
          by_cases hkf : x.kind = 5
          · have HK5 := Lib.hid (show (x.kind == 5) = true from beq_iff_eq.2 hkf)
            have HTE := Lib.hid (show f'.trace = f.trace ++ [⟨x.kind, x.path, x.dest, why⟩] from by
              have h := tell_fit (f := f) HBB.out HFIT.out
              rw [HDO.out] at h
              rw [if_pos hkf] at h
              exact h)
            have HXC := Lib.hid (blk_new X7 (.cells #[.int .u8 x.kind, .slice A1 x.path.length c1, .slice B1 x.dest.length d1, .int .i64 why] 59))
            have hac := below_alloc (Below.refl X7.heap.size X7) (.cells #[.int .u8 x.kind, .slice A1 x.path.length c1, .slice B1 x.dest.length d1, .int .i64 why] 59)
            have HFC := Lib.hid (HF8.out.below hac)
            have HNC := Lib.hid (Kd.N_below HN8.out hac)
            have HBC := Lib.hid (HB8.out.trans (hac.mono HB8.out.size))
            have HXX := Lib.hid ((hac.block _ (blk_lt HX8.out)).trans HX8.out)
            have HPC := Lib.hid (Kd.F_below HP8.out hac)
            have HQC := Lib.hid (Kd.F_below HQ8.out hac)
            have hsc := hac.size
            clear hac hkf
            have HZC := Lib.hid (blk_new X7 (.cells #[.int .u8 x.kind, .slice A1 x.path.length c1, .slice none 0 0, .int .i64 why] 59))
            have HZX := Lib.hid (((below_alloc (Below.refl X7.heap.size X7) (.cells #[.int .u8 x.kind, .slice A1 x.path.length c1, .slice none 0 0, .int .i64 why] 59)).block _ (blk_lt HX8.out)).trans HX8.out)
            have m0 := cell_of (j := 0) HZX.out rfl
            have m1 := cell_of (j := 1) HZX.out rfl
            have m2 := cell_of (j := 2) HZX.out rfl
            have r2 := cell_of (j := 2) HZC.out rfl
            have rf2 := unfr HZC.out 2
            obtain ⟨X9, hX9⟩ : ∃ W, X7.alloc (.cells #[.int .u8 x.kind, .slice A1 x.path.length c1, .slice B1 x.dest.length d1, .int .i64 why] 59) = W := ⟨_, rfl⟩
            rw [hX9] at HXC HFC HNC HBC HXX HPC HQC hsc
            have HFK := Lib.hid (show Kd.FK CallK X9 (fun j => j < w.heap.size) ⟨x.kind, x.path, x.dest, why⟩ [.int .u8 x.kind, .slice A1 x.path.length c1, .slice B1 x.dest.length d1, .int .i64 why] from fun W' hW => ⟨[.int .u8 x.kind], [.slice A1 x.path.length c1, .slice B1 x.dest.length d1, .int .i64 why], rfl, rfl, ⟨[.slice A1 x.path.length c1], [.slice B1 x.dest.length d1, .int .i64 why], rfl, ⟨A1, c1, rfl, hc1, HPC.out W' hW⟩, ⟨[.slice B1 x.dest.length d1], [.int .i64 why], rfl, ⟨B1, d1, rfl, hd1, HQC.out W' hW⟩, rfl⟩⟩⟩)
            have e0 := cell_of (j := 0) HX8.out rfl
            have e1 := cell_of (j := 1) HX8.out rfl
            have e2 := cell_of (j := 2) HX8.out rfl
            have y0 := cell_of (j := 0) HXX.out rfl
            have y1 := cell_of (j := 1) HXX.out rfl
            have y2 := cell_of (j := 2) HXX.out rfl
            have n0 := cell_of (j := 0) HXC.out rfl
            have n1 := cell_of (j := 1) HXC.out rfl
            have n2 := cell_of (j := 2) HXC.out rfl
            have n3 := cell_of (j := 3) HXC.out rfl
            have k5b : (x.kind == 5) = true := HK5.out
            go_wp2_with (at_builtin; refine Kd.N_append CallK (w0 := w) w.heap.size rfl (.tmp 77) (.tmp 79) 57 59 (.agg #[.int .u8 0, .slice none 0 0, .slice none 0 0, .int .i64 0]) 64 rfl Tryd.underlying57 info_call rfl (by decide) (by decide) v f.trace ⟨x.kind, x.path, x.dest, why⟩ [.int .u8 x.kind, .slice A1 x.path.length c1, .slice B1 x.dest.length d1, .int .i64 why] (fun j => ¬ Grown S w4 w6 j) (fun j => j < w.heap.size) rfl rfl ?aP ?aK ?aF ?aO ?aB ?aS ?aL ?_; (case aP => exact HFK.out); (case aK => exact fun j hj => ⟨fun h => by have := (HGS.out j h).1; omega, fun e => by have := Kd.N_base HNC.out j e.symm; omega⟩); (case aF => exact fun j hj h => by have := (HGS.out j h).2; omega); (case aO => exact HNC.out); (case aB => exact HBC.out); (case aS => exact HBC.out.size); (case aL => omega); intro v1 w11 hn1 hb11 hg11 hat11; have HN11 := Lib.hid hn1; have HB11 := Lib.hid hb11; have hs11 := hg11.size; have HF11 := Lib.hid (HFC.out.keep (Only.grown_of hg11) fun j hj e => HNC.out.1 j e hj))
            clear e0 e1 e2 y0 y1 y2 n0 n1 n2 n3
            refine (calls_in w11 g1 _ f' HF11.out).mono ?_
            rintro e w12 ⟨rfl, rfl⟩
            obtain ⟨D, cD, rfl⟩ := Kd.N_slice hn1
            have hlx : ((f'.trace.length : Int) != ((f.trace ++ [(⟨x.kind, x.path, x.dest, why⟩ : Call)]).length : Int)) = false := by rw [HTE.out]; simp
            have hlx2 : (f.trace ++ [(⟨x.kind, x.path, x.dest, why⟩ : Call)]).length = f.trace.length + 1 := by simp
            have HN : Hid (TellI w g1 t L (k + 1) w12 (.slice D (f.trace ++ [(⟨x.kind, x.path, x.dest, why⟩ : Call)]).length cD)) := Lib.hid (by
              have htk := HTK.out
              obtain ⟨q1, q2, q3, q4⟩ := HGF.out
              have hsh := do_short (f := f) (x := x) h9
              rw [HDO.out] at hsh
              refine ⟨Grown S w4 w6, f', HF11.out, fun j hj => ⟨(HGS.out j hj).1, by have := (HGS.out j hj).2; omega⟩, by rw [HTE.out]; exact HN11.out, q1, by omega, by omega, hsh, HB11.out⟩)
            clear hn1 hb11 hg11 hat11 hX9
            rw [hlx2] at HN hlx ⊢
            go_wp2_with fail
            go_roundw
            case rel => exact ⟨k + 1, by omega, by go_num, HN⟩
            case measure => simp [RowKit.intOf]; omega

          · have HK5 := Lib.hid (show (x.kind == 5) = false from beq_eq_false_iff_ne.2 hkf)
            have HTE := Lib.hid (show f'.trace = f.trace ++ [⟨x.kind, x.path, [], why⟩] from by
              have h := tell_fit (f := f) HBB.out HFIT.out
              rw [HDO.out] at h
              rw [if_neg hkf] at h
              exact h)
            have HXC := Lib.hid (blk_new X7 (.cells #[.int .u8 x.kind, .slice A1 x.path.length c1, .slice none 0 0, .int .i64 why] 59))
            have hac := below_alloc (Below.refl X7.heap.size X7) (.cells #[.int .u8 x.kind, .slice A1 x.path.length c1, .slice none 0 0, .int .i64 why] 59)
            have HFC := Lib.hid (HF8.out.below hac)
            have HNC := Lib.hid (Kd.N_below HN8.out hac)
            have HBC := Lib.hid (HB8.out.trans (hac.mono HB8.out.size))
            have HXX := Lib.hid ((hac.block _ (blk_lt HX8.out)).trans HX8.out)
            have HPC := Lib.hid (Kd.F_below HP8.out hac)
            have HQC := Lib.hid (Kd.F_below HQ8.out hac)
            have hsc := hac.size
            clear hac hkf
            obtain ⟨X9, hX9⟩ : ∃ W, X7.alloc (.cells #[.int .u8 x.kind, .slice A1 x.path.length c1, .slice none 0 0, .int .i64 why] 59) = W := ⟨_, rfl⟩
            rw [hX9] at HXC HFC HNC HBC HXX HPC HQC hsc
            have HFK := Lib.hid (show Kd.FK CallK X9 (fun j => j < w.heap.size) ⟨x.kind, x.path, [], why⟩ [.int .u8 x.kind, .slice A1 x.path.length c1, .slice none 0 0, .int .i64 why] from fun W' hW => ⟨[.int .u8 x.kind], [.slice A1 x.path.length c1, .slice none 0 0, .int .i64 why], rfl, rfl, ⟨[.slice A1 x.path.length c1], [.slice none 0 0, .int .i64 why], rfl, ⟨A1, c1, rfl, hc1, HPC.out W' hW⟩, ⟨[.slice none 0 0], [.int .i64 why], rfl, ⟨none, 0, rfl, Nat.le_refl _, Kd.C_nil _ _⟩, rfl⟩⟩⟩)
            have e0 := cell_of (j := 0) HX8.out rfl
            have e1 := cell_of (j := 1) HX8.out rfl
            have e2 := cell_of (j := 2) HX8.out rfl
            have y0 := cell_of (j := 0) HXX.out rfl
            have y1 := cell_of (j := 1) HXX.out rfl
            have y2 := cell_of (j := 2) HXX.out rfl
            have n0 := cell_of (j := 0) HXC.out rfl
            have n1 := cell_of (j := 1) HXC.out rfl
            have n2 := cell_of (j := 2) HXC.out rfl
            have n3 := cell_of (j := 3) HXC.out rfl
            have k5b : (x.kind == 5) = false := HK5.out
            go_wp2_with (at_builtin; refine Kd.N_append CallK (w0 := w) w.heap.size rfl (.tmp 77) (.tmp 79) 57 59 (.agg #[.int .u8 0, .slice none 0 0, .slice none 0 0, .int .i64 0]) 64 rfl Tryd.underlying57 info_call rfl (by decide) (by decide) v f.trace ⟨x.kind, x.path, [], why⟩ [.int .u8 x.kind, .slice A1 x.path.length c1, .slice none 0 0, .int .i64 why] (fun j => ¬ Grown S w4 w6 j) (fun j => j < w.heap.size) rfl rfl ?aP ?aK ?aF ?aO ?aB ?aS ?aL ?_; (case aP => exact HFK.out); (case aK => exact fun j hj => ⟨fun h => by have := (HGS.out j h).1; omega, fun e => by have := Kd.N_base HNC.out j e.symm; omega⟩); (case aF => exact fun j hj h => by have := (HGS.out j h).2; omega); (case aO => exact HNC.out); (case aB => exact HBC.out); (case aS => exact HBC.out.size); (case aL => omega); intro v1 w11 hn1 hb11 hg11 hat11; have HN11 := Lib.hid hn1; have HB11 := Lib.hid hb11; have hs11 := hg11.size; have HF11 := Lib.hid (HFC.out.keep (Only.grown_of hg11) fun j hj e => HNC.out.1 j e hj))
            clear e0 e1 e2 y0 y1 y2 n0 n1 n2 n3
            refine (calls_in w11 g1 _ f' HF11.out).mono ?_
            rintro e w12 ⟨rfl, rfl⟩
            obtain ⟨D, cD, rfl⟩ := Kd.N_slice hn1
            have hlx : ((f'.trace.length : Int) != ((f.trace ++ [(⟨x.kind, x.path, [], why⟩ : Call)]).length : Int)) = false := by rw [HTE.out]; simp
            have hlx2 : (f.trace ++ [(⟨x.kind, x.path, [], why⟩ : Call)]).length = f.trace.length + 1 := by simp
            have HN : Hid (TellI w g1 t L (k + 1) w12 (.slice D (f.trace ++ [(⟨x.kind, x.path, [], why⟩ : Call)]).length cD)) := Lib.hid (by
              have htk := HTK.out
              obtain ⟨q1, q2, q3, q4⟩ := HGF.out
              have hsh := do_short (f := f) (x := x) h9
              rw [HDO.out] at hsh
              refine ⟨Grown S w4 w6, f', HF11.out, fun j hj => ⟨(HGS.out j hj).1, by have := (HGS.out j hj).2; omega⟩, by rw [HTE.out]; exact HN11.out, q1, by omega, by omega, hsh, HB11.out⟩)
            clear hn1 hb11 hg11 hat11 hX9
            rw [hlx2] at HN hlx ⊢
            go_wp2_with fail
            go_roundw
            case rel => exact ⟨k + 1, by omega, by go_num, HN⟩
            case measure => simp [RowKit.intOf]; omega
    · obtain rfl : k = L.length := by omega
      obtain ⟨S, f, h1, h4, h5, h6, h7, h8, h9, h10⟩ := HI.out
      have H5 := Lib.hid h5
      have H9 := Lib.hid h9
      clear h6 h5
      go_wp2_with fail
      refine (trace_in wr g1 S f h1 (by omega) H9.out).mono ?_
      rintro e w4 ⟨v4, rfl, hR4, hq4⟩
      obtain ⟨A4, c4, rfl, hc4, hC4⟩ := Kd.R_reads hR4
      have HC4 := Lib.hid hC4
      clear hR4 hC4
      have hb4 := bstep h10 h10.size hq4
      obtain ⟨A5, c5, rfl, hc5, hC5⟩ := Kd.N_reads (Kd.N_below H5.out hq4)
      have HC5 := Lib.hid hC5
      clear hC5
      go_wp2_with fail
      refine (sameC_calls A4 c4 f.trace A5 c5 w4 HC4.out hc4 HC5.out hc5 (by omega) fun x hx => ⟨by have := (H9.out x hx).1; omega, by have := (H9.out x hx).2; omega⟩).mono ?_
      rintro e w5 ⟨rfl, hq5⟩
      have hb5 := bstep hb4 hb4.size hq5
      go_wp2_with fail
      go_ret
      exact ⟨rfl, hb5⟩
end Go.Proofs.YthlcjjhfkldmhaaDoor.G
