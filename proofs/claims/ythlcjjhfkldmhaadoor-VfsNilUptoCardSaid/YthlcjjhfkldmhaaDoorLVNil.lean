/- The law VfsNil, walked. Printed by wip/tools/gen_lvnil.py. -/
import Derived.Test.YthlcjjhfkldmhaaDoorVFrame
import Derived.Test.YthlcjjhfkldmhaaDoorVHd
import Derived.Test.YthlcjjhfkldmhaaDoorVNil
set_option linter.unusedVariables false
set_option linter.unusedSimpArgs false
section
namespace Go.Proofs.YthlcjjhfkldmhaaDoor.G
open Go.RowKit Go.Lib Go.Proofs.YthlcjjhfkldmhaaDoorW.PrintWords Go.Proofs.YthlcjjhfkldmhaaDoorW.PrintLast
set_option linter.unusedVariables false

def zeroStep : Step := ⟨0, [], [], ⟨#[]⟩⟩
/-- Element k of a script that came in at w, in a later world. -/
theorem step_at {w W : World} {A : Option Addr} {l : List Step} (h : StepK.C w A l.length l) (hb : Below w.heap.size w W) (k : Nat) (hk : k < l.length) :
    ∃ ad A' c' B' d', A = some ad ∧ W.cell? (ad.add (k * 4)) = some (.int .u8 l[k].kind) ∧ W.cell? ⟨(ad.add (k * 4)).block, (ad.add (k * 4)).off + 1, none⟩ = some (.slice A' l[k].path.length c')
      ∧ W.cell? ⟨(ad.add (k * 4)).block, (ad.add (k * 4)).off + 2, none⟩ = some (.slice B' l[k].dest.length d') ∧ W.cell? ⟨(ad.add (k * 4)).block, (ad.add (k * 4)).off + 3, none⟩ = some (.string l[k].data)
      ∧ l[k].path.length ≤ c' ∧ Kd.F Kd.string W (fun j => j < w.heap.size) A' l[k].path.length l[k].path ∧ l[k].dest.length ≤ d' ∧ Kd.F Kd.string W (fun j => j < w.heap.size) B' l[k].dest.length l[k].dest := by
  obtain ⟨ad, c, e, _, hK, hc0⟩ := Kd.C_get h zeroStep (k : Int) (by omega) (by omega)
  rw [Int.toNat_natCast] at hc0 hK
  have hg : l.getD k zeroStep = l[k] := by simp [List.getD, hk]
  rw [hg] at hK
  have hc : ∀ j u, c[j]? = some u → W.cell? (ad.add (k * 4 + j)) = some u := fun j u hu => by
    have h1 : w.cell? (ad.add (k * 4 + j)) = some u := hc0 j u hu
    exact (hb.cell (World.block_lt_of_cell? w _ h1)).trans h1
  obtain ⟨A', c', B', d', rfl, h1, h2, h3, h4⟩ := step_open hK
  have mv : ∀ {X : Option Addr} {p : List ByteArray}, Kd.C Kd.string w X p.length p → Kd.F Kd.string W (fun j => j < w.heap.size) X p.length p := fun q => Kd.F_step (Kd.C_F Kd.heap_string q) fun j hj _ => hb.block j hj
  exact ⟨ad, A', c', B', d', e, hc 0 _ rfl, by rw [← add_field _ _ 1 (by omega)]; exact hc 1 _ rfl, by rw [← add_field _ _ 2 (by omega)]; exact hc 2 _ rfl, by rw [← add_field _ _ 3 (by omega)]; exact hc 3 _ rfl, h1, mv h2, h3, mv h4⟩
theorem steps_len (l : List Step) : l.length ≤ stepsB l := by
  induction l with
  | nil => exact Nat.zero_le _
  | cons y r ih =>
    have h1 : stepsB (y :: r) = stepB y + stepsB r := by simp [stepsB]
    have h2 : 1 ≤ stepB y := by unfold stepB; omega
    simp only [List.length_cons]
    omega
end Go.Proofs.YthlcjjhfkldmhaaDoor.G
end
section
namespace Go.Proofs.YthlcjjhfkldmhaaDoor.G
open Go.RowKit Go.Lib Go.Proofs.YthlcjjhfkldmhaaDoorW.PrintWords Go.Proofs.YthlcjjhfkldmhaaDoorW.PrintLast
set_option linter.unusedVariables false
set_option linter.unusedSimpArgs false

set_option maxHeartbeats 8000000 in
set_option maxRecDepth 100000 in
theorem lvnil_calls (A : Option Addr) (c : Nat) (l : List Step) (w : World) (hl : StepK.C w A l.length l) (hc : l.length ≤ c) (hll : l.length ≤ 1048576) :
    Calls Tryd.prog 7 #[.slice A l.length c] w fun e w' => e = .returned (.bool true) ∧ Below w.heap.size w w' := by
  have HL := Lib.hid hl
  clear hl
  go_enter Tryd.func7, Tryd.ntmps7
  go_wp2_with fail
  go_loopw [4] (fun i wr => ∃ k : Nat, k ≤ l.length ∧ i = .int .i64 k ∧ Below w.heap.size w wr) (fun i _ => l.length - (RowKit.intOf i).toNat)
  case atStart => exact ⟨0, by omega, rfl, Below.refl _ _⟩
  case round =>
    obtain ⟨k, hk, rfl, hb⟩ := hrel
    by_cases q1 : k < l.length
    · obtain ⟨ad, A1, c1, B1, d1, rfl, p0, p1, p2, p3, hc1, HP, hd1, HQ⟩ := step_at HL.out hb k q1
      have mv : ∀ {W : World} {p : Addr} {v : Value}, Below wr.heap.size wr W → wr.cell? p = some v → W.cell? p = some v := fun h q => ((h.cell (World.block_lt_of_cell? wr _ q))).trans q
      have HP0 := Lib.hid p0
      have HP1 := Lib.hid p1
      have HP2 := Lib.hid p2
      have HP3 := Lib.hid p3
      clear HP HQ
      generalize l[k] = x at *
      have g1 : (k : Int) < (l.length : Int) := by omega
      go_wp2_with fail
      refine (do_nil x A1 B1 c1 d1 wr).mono ?_
      rintro e w1 ⟨rfl, hq1⟩
      have hs1 := hq1.size
      obtain ⟨b, hbb⟩ : ∃ b, oneOf x = b := ⟨_, rfl⟩
      have HBB := Lib.hid hbb
      rw [hbb]
      clear hbb p0 p1 p2 p3
      have hax := below_alloc (Below.refl w1.heap.size w1) (.cells #[.int .u8 0, .int .i64 0, .string ⟨#[]⟩] 52)
      have HXA := Lib.hid (blk_new w1 (.cells #[.int .u8 0, .int .i64 0, .string ⟨#[]⟩] 52))
      have hqx := hq1.trans (hax.mono hs1)
      have p0 := mv hqx HP0.out
      have p1 := mv hqx HP1.out
      have p2 := mv hqx HP2.out
      have p3 := mv hqx HP3.out
      cases b
      · simp only [Bool.false_eq_true, if_false]
        go_wp2_with fail
        clear p0 p1 p2 p3
        generalize (w1.alloc (.cells #[.int .u8 0, .int .i64 0, .string ⟨#[]⟩] 52)) = X1 at *
        refine (isCall_calls x A1 B1 c1 d1 X1).mono ?_
        rw [HBB.out]
        rintro e w2 ⟨rfl, hq2⟩
        have HA2 := Lib.hid ((hq2.block _ (blk_lt HXA.out)).trans HXA.out)
        have hs2 := hqx.size
        have hbw := bstep (bstep hb hb.size hqx) (Nat.le_trans hb.size hs2) hq2
        have e0 := cell_of (j := 0) HA2.out rfl
        have e1 := cell_of (j := 1) HA2.out rfl
        have e2 := cell_of (j := 2) HA2.out rfl
        go_wp2_with fail
        go_roundw
        case rel => exact ⟨k + 1, by omega, by go_num, hbw⟩
        case measure => simp [RowKit.intOf]; omega
      · simp only [if_true]
        go_wp2_with fail
        clear p0 p1 p2 p3
        generalize (w1.alloc (.cells #[.int .u8 0, .int .i64 0, .string ⟨#[]⟩] 52)) = X1 at *
        refine (isCall_calls x A1 B1 c1 d1 X1).mono ?_
        rw [HBB.out]
        rintro e w2 ⟨rfl, hq2⟩
        have HA2 := Lib.hid ((hq2.block _ (blk_lt HXA.out)).trans HXA.out)
        have hs2 := hqx.size
        have hbw := bstep (bstep hb hb.size hqx) (Nat.le_trans hb.size hs2) hq2
        have e0 := cell_of (j := 0) HA2.out rfl
        have e1 := cell_of (j := 1) HA2.out rfl
        have e2 := cell_of (j := 2) HA2.out rfl
        go_wp2_with fail
        go_roundw
        case rel => exact ⟨k + 1, by omega, by go_num, hbw⟩
        case measure => simp [RowKit.intOf]; omega
    · obtain rfl : k = l.length := by omega
      go_wp2_with fail
      refine (begins_calls wr).mono ?_
      rintro e w1 ⟨rfl, hq1⟩
      have hb1 := bstep hb hb.size hq1
      go_wp2_with fail
      refine (tree_nil w1).mono ?_
      rintro e w2 ⟨rfl, hq2⟩
      have hb2 := bstep hb1 hb1.size hq2
      go_wp2_with fail
      refine (show Calls Tryd.prog 14 #[.agg #[.string ⟨#[]⟩, .int .u8 0, .string ⟨#[]⟩, .slice none 0 0], .agg #[.string ⟨#[]⟩, .int .u8 0, .string ⟨#[]⟩, .slice none 0 0]] w2 _ from sameC zeroF none none 0 0 w2 (by rw [zero_bulk4]; omega) (Kd.C_nil _ _) (Nat.le_refl _) (Kd.C_nil _ _) (Nat.le_refl _)).mono ?_
      rintro e w3 ⟨rfl, hq3⟩
      have hb3 := bstep hb2 hb2.size hq3
      go_wp2_with fail
      refine (trace_nil w3).mono ?_
      rintro e w4 ⟨rfl, rfl⟩
      go_wp2_with fail
      refine (calls_nil w4).mono ?_
      rintro e w5 ⟨rfl, rfl⟩
      go_wp2_with fail
      go_ret
      exact ⟨rfl, hb3⟩
theorem lvnil_all (A : Option Addr) (c : Nat) (l : List Step) (w : World) (hl : StepK.C w A l.length l) (hc : l.length ≤ c) (hb : stepsB l ≤ 1048576) :
    Calls Tryd.prog 7 #[.slice A l.length c] w fun e w' => e = .returned (.bool true) ∧ Below w.heap.size w w' :=
  lvnil_calls A c l w hl hc (by have := steps_len l; omega)
end Go.Proofs.YthlcjjhfkldmhaaDoor.G
end
