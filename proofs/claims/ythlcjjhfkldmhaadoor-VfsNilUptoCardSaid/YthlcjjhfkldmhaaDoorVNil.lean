/- A nil file system: its methods, do, Tree, Trace, Calls. Printed by wip/tools/gen_vnil.py. -/
import Derived.Test.YthlcjjhfkldmhaaDoorVBegins
set_option linter.unusedVariables false
set_option linter.unusedSimpArgs false
namespace Go.Proofs.YthlcjjhfkldmhaaDoor.G
open Go.RowKit Go.Lib Go.Proofs.YthlcjjhfkldmhaaDoorW.PrintWords Go.Proofs.YthlcjjhfkldmhaaDoorW.PrintLast
set_option linter.unusedVariables false
set_option linter.unusedSimpArgs false

set_option maxHeartbeats 4000000 in
theorem call_nil (w : World) (k : Int) (v : Value) :
    Calls Tryd.prog 47 #[.pointer none, .int .u8 k, v] w fun e w' => e = .returned (.int .i64 1) ∧ w' = w := by
  go_enter Tryd.func47, Tryd.ntmps47
  go_wp2_with fail
  go_ret
  exact ⟨rfl, rfl⟩
set_option maxHeartbeats 4000000 in
set_option maxRecDepth 100000 in
theorem lstat_nil (w : World) (Ap : Option Addr) (cp : Nat) (p : List ByteArray) :
    Calls Tryd.prog 31 #[.pointer none, .slice Ap p.length cp] w fun e w' => e = .returned (.tuple #[.agg #[.int .u8 0, .int .i64 0], .int .i64 1]) ∧ Below w.heap.size w w' := by
  have h2 := two_boxes w #[.int .u8 0, .int .i64 0] #[.slice Ap p.length cp, .slice none 0 0, .string ⟨#[]⟩, .int .u8 0, .int .i64 0] 50 94
  have HB0 := Lib.hid (((Below.refl w.heap.size w).alloc (Nat.le_refl _) (.cells #[.int .u8 0, .int .i64 0] 50)).alloc (by simp) (.cells #[.slice Ap p.length cp, .slice none 0 0, .string ⟨#[]⟩, .int .u8 0, .int .i64 0] 94))
  have HR := Lib.hid h2.2
  have HS := Lib.hid h2.1
  clear h2
  go_enter Tryd.func31, Tryd.ntmps31
  go_wp2_with fail
  generalize ((w.alloc (.cells #[.int .u8 0, .int .i64 0] 50)).alloc (.cells #[.slice Ap p.length cp, .slice none 0 0, .string ⟨#[]⟩, .int .u8 0, .int .i64 0] 94)) = W0 at *
  refine (show Calls Tryd.prog 47 #[.pointer none, .int .u8 1, .pointer (some ⟨(w.heap.size + 1), 0, none⟩)] W0 _ from call_nil W0 1 _).mono ?_
  rintro e w1 ⟨rfl, rfl⟩
  have lr0 := cell_of (j := 0) HR.out rfl
  have lr1 := cell_of (j := 1) HR.out rfl
  have lr2 := cell_of (j := 2) HR.out rfl
  have lr3 := cell_of (j := 3) HR.out rfl
  have lr4 := cell_of (j := 4) HR.out rfl
  have ls0 := cell_of (j := 0) HS.out rfl
  have lf0 := unfr HS.out 0
  have ls1 := cell_of (j := 1) HS.out rfl
  have lf1 := unfr HS.out 1
  go_wp2_with fail
  refine bodyPost_ret (results_ct rfl _ _ w.heap.size 50 #[.int .u8 0, .int .i64 0] (0, 0) _ rfl (blk_put (blk_put HS.out 0 (.int .u8 0) rfl) 1 (.int .i64 0) rfl) Tryd.underlying50 rfl (by kernel_rfl)) rfl ?_
  exact ⟨rfl, (HB0.out.setCell (p := ⟨w.heap.size, 0, none⟩) (Nat.le_refl _) _).setCell (p := ⟨w.heap.size, 1, none⟩) (Nat.le_refl _) _⟩
set_option maxHeartbeats 4000000 in
set_option maxRecDepth 100000 in
theorem read_nil (w : World) (Ap : Option Addr) (cp : Nat) (p : List ByteArray) :
    Calls Tryd.prog 29 #[.pointer none, .slice Ap p.length cp] w fun e w' => e = .returned (.tuple #[.string ⟨#[]⟩, .int .i64 1]) ∧ Below w.heap.size w w' := by
  have HB0 := Lib.hid (below_alloc (Below.refl w.heap.size w) (.cells #[.slice Ap p.length cp, .slice none 0 0, .string ⟨#[]⟩, .int .u8 0, .int .i64 0] 94))
  have HR := Lib.hid (blk_new w (.cells #[.slice Ap p.length cp, .slice none 0 0, .string ⟨#[]⟩, .int .u8 0, .int .i64 0] 94))
  go_enter Tryd.func29, Tryd.ntmps29
  go_wp2_with fail
  generalize (w.alloc (.cells #[.slice Ap p.length cp, .slice none 0 0, .string ⟨#[]⟩, .int .u8 0, .int .i64 0] 94)) = W0 at *
  refine (show Calls Tryd.prog 47 #[.pointer none, .int .u8 2, .pointer (some ⟨w.heap.size, 0, none⟩)] W0 _ from call_nil W0 2 _).mono ?_
  rintro e w1 ⟨rfl, rfl⟩
  have lr0 := cell_of (j := 0) HR.out rfl
  have lr1 := cell_of (j := 1) HR.out rfl
  have lr2 := cell_of (j := 2) HR.out rfl
  have lr3 := cell_of (j := 3) HR.out rfl
  have lr4 := cell_of (j := 4) HR.out rfl
  go_wp2_with fail
  go_ret2
  exact ⟨rfl, HB0.out⟩
set_option maxHeartbeats 4000000 in
set_option maxRecDepth 100000 in
theorem create_nil (w : World) (Ap : Option Addr) (cp : Nat) (p : List ByteArray) :
    Calls Tryd.prog 27 #[.pointer none, .slice Ap p.length cp] w fun e w' => e = .returned (.int .i64 1) ∧ Below w.heap.size w w' := by
  have HB0 := Lib.hid (below_alloc (Below.refl w.heap.size w) (.cells #[.slice Ap p.length cp, .slice none 0 0, .string ⟨#[]⟩, .int .u8 0, .int .i64 0] 94))
  have HR := Lib.hid (blk_new w (.cells #[.slice Ap p.length cp, .slice none 0 0, .string ⟨#[]⟩, .int .u8 0, .int .i64 0] 94))
  go_enter Tryd.func27, Tryd.ntmps27
  go_wp2_with fail
  generalize (w.alloc (.cells #[.slice Ap p.length cp, .slice none 0 0, .string ⟨#[]⟩, .int .u8 0, .int .i64 0] 94)) = W0 at *
  refine (show Calls Tryd.prog 47 #[.pointer none, .int .u8 3, .pointer (some ⟨w.heap.size, 0, none⟩)] W0 _ from call_nil W0 3 _).mono ?_
  rintro e w1 ⟨rfl, rfl⟩
  go_wp2_with fail
  go_ret
  exact ⟨rfl, HB0.out⟩
set_option maxHeartbeats 4000000 in
set_option maxRecDepth 100000 in
theorem append_nil (w : World) (Ap : Option Addr) (cp : Nat) (p : List ByteArray) (d : ByteArray) :
    Calls Tryd.prog 28 #[.pointer none, .slice Ap p.length cp, .string d] w fun e w' => e = .returned (.int .i64 1) ∧ Below w.heap.size w w' := by
  have HB0 := Lib.hid (below_alloc (Below.refl w.heap.size w) (.cells #[.slice Ap p.length cp, .slice none 0 0, .string d, .int .u8 0, .int .i64 0] 94))
  have HR := Lib.hid (blk_new w (.cells #[.slice Ap p.length cp, .slice none 0 0, .string d, .int .u8 0, .int .i64 0] 94))
  go_enter Tryd.func28, Tryd.ntmps28
  go_wp2_with fail
  generalize (w.alloc (.cells #[.slice Ap p.length cp, .slice none 0 0, .string d, .int .u8 0, .int .i64 0] 94)) = W0 at *
  refine (show Calls Tryd.prog 47 #[.pointer none, .int .u8 4, .pointer (some ⟨w.heap.size, 0, none⟩)] W0 _ from call_nil W0 4 _).mono ?_
  rintro e w1 ⟨rfl, rfl⟩
  go_wp2_with fail
  go_ret
  exact ⟨rfl, HB0.out⟩
set_option maxHeartbeats 4000000 in
set_option maxRecDepth 100000 in
theorem rename_nil (w : World) (Ap : Option Addr) (cp : Nat) (p : List ByteArray) (Aq : Option Addr) (cq : Nat) (q : List ByteArray) :
    Calls Tryd.prog 30 #[.pointer none, .slice Ap p.length cp, .slice Aq q.length cq] w fun e w' => e = .returned (.int .i64 1) ∧ Below w.heap.size w w' := by
  have HB0 := Lib.hid (below_alloc (Below.refl w.heap.size w) (.cells #[.slice Ap p.length cp, .slice Aq q.length cq, .string ⟨#[]⟩, .int .u8 0, .int .i64 0] 94))
  have HR := Lib.hid (blk_new w (.cells #[.slice Ap p.length cp, .slice Aq q.length cq, .string ⟨#[]⟩, .int .u8 0, .int .i64 0] 94))
  go_enter Tryd.func30, Tryd.ntmps30
  go_wp2_with fail
  generalize (w.alloc (.cells #[.slice Ap p.length cp, .slice Aq q.length cq, .string ⟨#[]⟩, .int .u8 0, .int .i64 0] 94)) = W0 at *
  refine (show Calls Tryd.prog 47 #[.pointer none, .int .u8 5, .pointer (some ⟨w.heap.size, 0, none⟩)] W0 _ from call_nil W0 5 _).mono ?_
  rintro e w1 ⟨rfl, rfl⟩
  go_wp2_with fail
  go_ret
  exact ⟨rfl, HB0.out⟩
set_option maxHeartbeats 4000000 in
set_option maxRecDepth 100000 in
theorem do_nil (x : Step) (A B : Option Addr) (c d : Nat) (w : World) :
    Calls Tryd.prog 22 #[.pointer none, .agg #[.int .u8 x.kind, .slice A x.path.length c, .slice B x.dest.length d, .string x.data]] w fun e w' => e = .returned (.tuple #[.agg #[.int .u8 0, .int .i64 0, .string ⟨#[]⟩], .int .i64 (if oneOf x = true then 1 else 0)]) ∧ Below w.heap.size w w' := by
  have h3 := boxes3 w #[.int .u8 x.kind, .slice A x.path.length c, .slice B x.dest.length d, .string x.data] #[.int .u8 0, .int .i64 0, .string ⟨#[]⟩] #[.int .u8 0, .int .i64 0, .string ⟨#[]⟩] 46 52 52
  have hb0 := (((Below.refl w.heap.size w).alloc (Nat.le_refl _) (.cells #[.int .u8 x.kind, .slice A x.path.length c, .slice B x.dest.length d, .string x.data] 46)).alloc (by simp) (.cells #[.int .u8 0, .int .i64 0, .string ⟨#[]⟩] 52)).alloc (by simp; omega) (.cells #[.int .u8 0, .int .i64 0, .string ⟨#[]⟩] 52)
  have HB0 := Lib.hid hb0
  have H0 := Lib.hid h3.1
  have H1 := Lib.hid h3.2.1
  have H2 := Lib.hid h3.2.2
  have HSZ := Lib.hid (show (((w.alloc (.cells #[.int .u8 x.kind, .slice A x.path.length c, .slice B x.dest.length d, .string x.data] 46)).alloc (.cells #[.int .u8 0, .int .i64 0, .string ⟨#[]⟩] 52)).alloc (.cells #[.int .u8 0, .int .i64 0, .string ⟨#[]⟩] 52)).heap.size = w.heap.size + 3 by simp)
  clear hb0 h3
  have hkk : x.kind = 1 ∨ x.kind = 2 ∨ x.kind = 3 ∨ x.kind = 4 ∨ x.kind = 5 ∨ (x.kind ≠ 1 ∧ x.kind ≠ 2 ∧ x.kind ≠ 3 ∧ x.kind ≠ 4 ∧ x.kind ≠ 5) := by omega
  go_enter Tryd.func22, Tryd.ntmps22
  have l0 := cell_of (j := 0) H0.out rfl
  have l1 := cell_of (j := 1) H0.out rfl
  have l2 := cell_of (j := 2) H0.out rfl
  have l3 := cell_of (j := 3) H0.out rfl
  rcases hkk with hk | hk | hk | hk | hk | ⟨k1, k2, k3, k4, k5⟩
  · skip
    have b1 : (x.kind == 1) = true := beq_iff_eq.2 hk
    have HO := Lib.hid (show oneOf x = true by simp [oneOf, hk])
    rw [HO.out]
    clear hk
    go_wp2_with fail
    generalize (((w.alloc (.cells #[.int .u8 x.kind, .slice A x.path.length c, .slice B x.dest.length d, .string x.data] 46)).alloc (.cells #[.int .u8 0, .int .i64 0, .string ⟨#[]⟩] 52)).alloc (.cells #[.int .u8 0, .int .i64 0, .string ⟨#[]⟩] 52)) = W0 at *
    have hs0 := HSZ.out
    refine (lstat_nil W0 A c x.path).mono ?_
    rintro e w1 ⟨rfl, hq⟩
    have H11 := Lib.hid ((hq.block _ (by omega)).trans H1.out)
    have H12 := Lib.hid ((hq.block _ (by omega)).trans H2.out)
    have HB1 := Lib.hid (HB0.out.trans (hq.mono (by omega)))
    clear l0 l1 l2 l3 hs0
    have e0 := cell_of (j := 0) H12.out rfl
    have g0 := unfr H12.out 0
    have n0 := cell_of (j := 0) H11.out rfl
    have m0 := unfr H11.out 0
    have e1 := cell_of (j := 1) H12.out rfl
    have g1 := unfr H12.out 1
    have n1 := cell_of (j := 1) H11.out rfl
    have m1 := unfr H11.out 1
    have e2 := cell_of (j := 2) H12.out rfl
    have g2 := unfr H12.out 2
    have n2 := cell_of (j := 2) H11.out rfl
    have m2 := unfr H11.out 2
    have H22 := Lib.hid (blk_put (blk_put H12.out 0 (.int .u8 0) rfl) 1 (.int .i64 0) rfl)
    have H21 := Lib.hid ((Below.heap_setCell (w1.setCell ⟨w.heap.size + 2, 0, none⟩ (.int .u8 0)) ⟨w.heap.size + 2, 1, none⟩ (.int .i64 0) (w.heap.size + 1) (by simp only; omega)).trans ((Below.heap_setCell w1 ⟨w.heap.size + 2, 0, none⟩ (.int .u8 0) (w.heap.size + 1) (by simp only; omega)).trans H11.out))
    have HM2 := Lib.hid ((HB1.out.setCell (p := ⟨w.heap.size + 2, 0, none⟩) (by simp only; omega) (.int .u8 0)).setCell (p := ⟨w.heap.size + 2, 1, none⟩) (by simp only; omega) (.int .i64 0))
    obtain ⟨W2, hW2⟩ : ∃ W, ((w1.setCell ⟨w.heap.size + 2, 0, none⟩ (.int .u8 0)).setCell ⟨w.heap.size + 2, 1, none⟩ (.int .i64 0)) = W := ⟨_, rfl⟩
    rw [hW2] at H22 H21 HM2
    have e02 := cell_of (j := 0) H22.out rfl
    have n02 := cell_of (j := 0) H21.out rfl
    have m02 := unfr H21.out 0
    have e12 := cell_of (j := 1) H22.out rfl
    have n12 := cell_of (j := 1) H21.out rfl
    have m12 := unfr H21.out 1
    have e22 := cell_of (j := 2) H22.out rfl
    have n22 := cell_of (j := 2) H21.out rfl
    have m22 := unfr H21.out 2
    go_wp2_with fail
    refine bodyPost_ret (results_ct rfl _ _ (w.heap.size + 1) 52 #[.int .u8 0, .int .i64 0, .string ⟨#[]⟩] (0, 0) _ rfl (blk_put (blk_put (blk_put H21.out 0 (.int .u8 0) rfl) 1 (.int .i64 0) rfl) 2 (.string ⟨#[]⟩) rfl) Tryd.underlying52 rfl (by kernel_rfl)) rfl ?_
    exact ⟨rfl, (((HM2.out.setCell (p := ⟨w.heap.size + 1, 0, none⟩) (by simp only; omega) (.int .u8 0)).setCell (p := ⟨w.heap.size + 1, 1, none⟩) (by simp only; omega) (.int .i64 0)).setCell (p := ⟨w.heap.size + 1, 2, none⟩) (by simp only; omega) (.string ⟨#[]⟩))⟩
  · skip
    have b1 : (x.kind == 1) = false := beq_eq_false_iff_ne.2 (by omega)
    have b2 : (x.kind == 2) = true := beq_iff_eq.2 hk
    have HO := Lib.hid (show oneOf x = true by simp [oneOf, hk])
    rw [HO.out]
    clear hk
    go_wp2_with fail
    generalize (((w.alloc (.cells #[.int .u8 x.kind, .slice A x.path.length c, .slice B x.dest.length d, .string x.data] 46)).alloc (.cells #[.int .u8 0, .int .i64 0, .string ⟨#[]⟩] 52)).alloc (.cells #[.int .u8 0, .int .i64 0, .string ⟨#[]⟩] 52)) = W0 at *
    have hs0 := HSZ.out
    refine (read_nil W0 A c x.path).mono ?_
    rintro e w1 ⟨rfl, hq⟩
    have H11 := Lib.hid ((hq.block _ (by omega)).trans H1.out)
    have H12 := Lib.hid ((hq.block _ (by omega)).trans H2.out)
    have HB1 := Lib.hid (HB0.out.trans (hq.mono (by omega)))
    clear l0 l1 l2 l3 hs0
    have e0 := cell_of (j := 0) H12.out rfl
    have g0 := unfr H12.out 0
    have n0 := cell_of (j := 0) H11.out rfl
    have m0 := unfr H11.out 0
    have e1 := cell_of (j := 1) H12.out rfl
    have g1 := unfr H12.out 1
    have n1 := cell_of (j := 1) H11.out rfl
    have m1 := unfr H11.out 1
    have e2 := cell_of (j := 2) H12.out rfl
    have g2 := unfr H12.out 2
    have n2 := cell_of (j := 2) H11.out rfl
    have m2 := unfr H11.out 2
    have H22 := Lib.hid (blk_put H12.out 2 (.string ⟨#[]⟩) rfl)
    have H21 := Lib.hid ((Below.heap_setCell w1 ⟨w.heap.size + 2, 2, none⟩ (.string ⟨#[]⟩) (w.heap.size + 1) (by simp only; omega)).trans H11.out)
    have HM2 := Lib.hid (HB1.out.setCell (p := ⟨w.heap.size + 2, 2, none⟩) (by simp only; omega) (.string ⟨#[]⟩))
    obtain ⟨W2, hW2⟩ : ∃ W, (w1.setCell ⟨w.heap.size + 2, 2, none⟩ (.string ⟨#[]⟩)) = W := ⟨_, rfl⟩
    rw [hW2] at H22 H21 HM2
    have e02 := cell_of (j := 0) H22.out rfl
    have n02 := cell_of (j := 0) H21.out rfl
    have m02 := unfr H21.out 0
    have e12 := cell_of (j := 1) H22.out rfl
    have n12 := cell_of (j := 1) H21.out rfl
    have m12 := unfr H21.out 1
    have e22 := cell_of (j := 2) H22.out rfl
    have n22 := cell_of (j := 2) H21.out rfl
    have m22 := unfr H21.out 2
    go_wp2_with fail
    refine bodyPost_ret (results_ct rfl _ _ (w.heap.size + 1) 52 #[.int .u8 0, .int .i64 0, .string ⟨#[]⟩] (0, 0) _ rfl (blk_put (blk_put (blk_put H21.out 0 (.int .u8 0) rfl) 1 (.int .i64 0) rfl) 2 (.string ⟨#[]⟩) rfl) Tryd.underlying52 rfl (by kernel_rfl)) rfl ?_
    exact ⟨rfl, (((HM2.out.setCell (p := ⟨w.heap.size + 1, 0, none⟩) (by simp only; omega) (.int .u8 0)).setCell (p := ⟨w.heap.size + 1, 1, none⟩) (by simp only; omega) (.int .i64 0)).setCell (p := ⟨w.heap.size + 1, 2, none⟩) (by simp only; omega) (.string ⟨#[]⟩))⟩
  · skip
    have b1 : (x.kind == 1) = false := beq_eq_false_iff_ne.2 (by omega)
    have b2 : (x.kind == 2) = false := beq_eq_false_iff_ne.2 (by omega)
    have b3 : (x.kind == 3) = true := beq_iff_eq.2 hk
    have HO := Lib.hid (show oneOf x = true by simp [oneOf, hk])
    rw [HO.out]
    clear hk
    go_wp2_with fail
    generalize (((w.alloc (.cells #[.int .u8 x.kind, .slice A x.path.length c, .slice B x.dest.length d, .string x.data] 46)).alloc (.cells #[.int .u8 0, .int .i64 0, .string ⟨#[]⟩] 52)).alloc (.cells #[.int .u8 0, .int .i64 0, .string ⟨#[]⟩] 52)) = W0 at *
    have hs0 := HSZ.out
    refine (create_nil W0 A c x.path).mono ?_
    rintro e w1 ⟨rfl, hq⟩
    have H11 := Lib.hid ((hq.block _ (by omega)).trans H1.out)
    have H12 := Lib.hid ((hq.block _ (by omega)).trans H2.out)
    have HB1 := Lib.hid (HB0.out.trans (hq.mono (by omega)))
    clear l0 l1 l2 l3 hs0
    have e0 := cell_of (j := 0) H12.out rfl
    have g0 := unfr H12.out 0
    have n0 := cell_of (j := 0) H11.out rfl
    have m0 := unfr H11.out 0
    have e1 := cell_of (j := 1) H12.out rfl
    have g1 := unfr H12.out 1
    have n1 := cell_of (j := 1) H11.out rfl
    have m1 := unfr H11.out 1
    have e2 := cell_of (j := 2) H12.out rfl
    have g2 := unfr H12.out 2
    have n2 := cell_of (j := 2) H11.out rfl
    have m2 := unfr H11.out 2
    have H22 := H12
    have H21 := H11
    have HM2 := HB1
    go_wp2_with fail
    refine bodyPost_ret (results_ct rfl _ _ (w.heap.size + 1) 52 #[.int .u8 0, .int .i64 0, .string ⟨#[]⟩] (0, 0) _ rfl (blk_put (blk_put (blk_put H21.out 0 (.int .u8 0) rfl) 1 (.int .i64 0) rfl) 2 (.string ⟨#[]⟩) rfl) Tryd.underlying52 rfl (by kernel_rfl)) rfl ?_
    exact ⟨rfl, (((HM2.out.setCell (p := ⟨w.heap.size + 1, 0, none⟩) (by simp only; omega) (.int .u8 0)).setCell (p := ⟨w.heap.size + 1, 1, none⟩) (by simp only; omega) (.int .i64 0)).setCell (p := ⟨w.heap.size + 1, 2, none⟩) (by simp only; omega) (.string ⟨#[]⟩))⟩
  · skip
    have b1 : (x.kind == 1) = false := beq_eq_false_iff_ne.2 (by omega)
    have b2 : (x.kind == 2) = false := beq_eq_false_iff_ne.2 (by omega)
    have b3 : (x.kind == 3) = false := beq_eq_false_iff_ne.2 (by omega)
    have b4 : (x.kind == 4) = true := beq_iff_eq.2 hk
    have HO := Lib.hid (show oneOf x = true by simp [oneOf, hk])
    rw [HO.out]
    clear hk
    go_wp2_with fail
    generalize (((w.alloc (.cells #[.int .u8 x.kind, .slice A x.path.length c, .slice B x.dest.length d, .string x.data] 46)).alloc (.cells #[.int .u8 0, .int .i64 0, .string ⟨#[]⟩] 52)).alloc (.cells #[.int .u8 0, .int .i64 0, .string ⟨#[]⟩] 52)) = W0 at *
    have hs0 := HSZ.out
    refine (append_nil W0 A c x.path x.data).mono ?_
    rintro e w1 ⟨rfl, hq⟩
    have H11 := Lib.hid ((hq.block _ (by omega)).trans H1.out)
    have H12 := Lib.hid ((hq.block _ (by omega)).trans H2.out)
    have HB1 := Lib.hid (HB0.out.trans (hq.mono (by omega)))
    clear l0 l1 l2 l3 hs0
    have e0 := cell_of (j := 0) H12.out rfl
    have g0 := unfr H12.out 0
    have n0 := cell_of (j := 0) H11.out rfl
    have m0 := unfr H11.out 0
    have e1 := cell_of (j := 1) H12.out rfl
    have g1 := unfr H12.out 1
    have n1 := cell_of (j := 1) H11.out rfl
    have m1 := unfr H11.out 1
    have e2 := cell_of (j := 2) H12.out rfl
    have g2 := unfr H12.out 2
    have n2 := cell_of (j := 2) H11.out rfl
    have m2 := unfr H11.out 2
    have H22 := H12
    have H21 := H11
    have HM2 := HB1
    go_wp2_with fail
    refine bodyPost_ret (results_ct rfl _ _ (w.heap.size + 1) 52 #[.int .u8 0, .int .i64 0, .string ⟨#[]⟩] (0, 0) _ rfl (blk_put (blk_put (blk_put H21.out 0 (.int .u8 0) rfl) 1 (.int .i64 0) rfl) 2 (.string ⟨#[]⟩) rfl) Tryd.underlying52 rfl (by kernel_rfl)) rfl ?_
    exact ⟨rfl, (((HM2.out.setCell (p := ⟨w.heap.size + 1, 0, none⟩) (by simp only; omega) (.int .u8 0)).setCell (p := ⟨w.heap.size + 1, 1, none⟩) (by simp only; omega) (.int .i64 0)).setCell (p := ⟨w.heap.size + 1, 2, none⟩) (by simp only; omega) (.string ⟨#[]⟩))⟩
  · skip
    have b1 : (x.kind == 1) = false := beq_eq_false_iff_ne.2 (by omega)
    have b2 : (x.kind == 2) = false := beq_eq_false_iff_ne.2 (by omega)
    have b3 : (x.kind == 3) = false := beq_eq_false_iff_ne.2 (by omega)
    have b4 : (x.kind == 4) = false := beq_eq_false_iff_ne.2 (by omega)
    have b5 : (x.kind == 5) = true := beq_iff_eq.2 hk
    have HO := Lib.hid (show oneOf x = true by simp [oneOf, hk])
    rw [HO.out]
    clear hk
    go_wp2_with fail
    generalize (((w.alloc (.cells #[.int .u8 x.kind, .slice A x.path.length c, .slice B x.dest.length d, .string x.data] 46)).alloc (.cells #[.int .u8 0, .int .i64 0, .string ⟨#[]⟩] 52)).alloc (.cells #[.int .u8 0, .int .i64 0, .string ⟨#[]⟩] 52)) = W0 at *
    have hs0 := HSZ.out
    refine (rename_nil W0 A c x.path B d x.dest).mono ?_
    rintro e w1 ⟨rfl, hq⟩
    have H11 := Lib.hid ((hq.block _ (by omega)).trans H1.out)
    have H12 := Lib.hid ((hq.block _ (by omega)).trans H2.out)
    have HB1 := Lib.hid (HB0.out.trans (hq.mono (by omega)))
    clear l0 l1 l2 l3 hs0
    have e0 := cell_of (j := 0) H12.out rfl
    have g0 := unfr H12.out 0
    have n0 := cell_of (j := 0) H11.out rfl
    have m0 := unfr H11.out 0
    have e1 := cell_of (j := 1) H12.out rfl
    have g1 := unfr H12.out 1
    have n1 := cell_of (j := 1) H11.out rfl
    have m1 := unfr H11.out 1
    have e2 := cell_of (j := 2) H12.out rfl
    have g2 := unfr H12.out 2
    have n2 := cell_of (j := 2) H11.out rfl
    have m2 := unfr H11.out 2
    have H22 := H12
    have H21 := H11
    have HM2 := HB1
    go_wp2_with fail
    refine bodyPost_ret (results_ct rfl _ _ (w.heap.size + 1) 52 #[.int .u8 0, .int .i64 0, .string ⟨#[]⟩] (0, 0) _ rfl (blk_put (blk_put (blk_put H21.out 0 (.int .u8 0) rfl) 1 (.int .i64 0) rfl) 2 (.string ⟨#[]⟩) rfl) Tryd.underlying52 rfl (by kernel_rfl)) rfl ?_
    exact ⟨rfl, (((HM2.out.setCell (p := ⟨w.heap.size + 1, 0, none⟩) (by simp only; omega) (.int .u8 0)).setCell (p := ⟨w.heap.size + 1, 1, none⟩) (by simp only; omega) (.int .i64 0)).setCell (p := ⟨w.heap.size + 1, 2, none⟩) (by simp only; omega) (.string ⟨#[]⟩))⟩
  · skip
    have HO := Lib.hid (show oneOf x = false by simp [oneOf]; omega)
    rw [HO.out]
    have b1 : (x.kind == 1) = false := beq_eq_false_iff_ne.2 k1
    clear k1
    have b2 : (x.kind == 2) = false := beq_eq_false_iff_ne.2 k2
    clear k2
    have b3 : (x.kind == 3) = false := beq_eq_false_iff_ne.2 k3
    clear k3
    have b4 : (x.kind == 4) = false := beq_eq_false_iff_ne.2 k4
    clear k4
    have b5 : (x.kind == 5) = false := beq_eq_false_iff_ne.2 k5
    clear k5
    have e0 := cell_of (j := 0) H2.out rfl
    have n0 := cell_of (j := 0) H1.out rfl
    have m0 := unfr H1.out 0
    have e1 := cell_of (j := 1) H2.out rfl
    have n1 := cell_of (j := 1) H1.out rfl
    have m1 := unfr H1.out 1
    have e2 := cell_of (j := 2) H2.out rfl
    have n2 := cell_of (j := 2) H1.out rfl
    have m2 := unfr H1.out 2
    go_wp2_with fail
    refine bodyPost_ret (results_ct rfl _ _ (w.heap.size + 1) 52 #[.int .u8 0, .int .i64 0, .string ⟨#[]⟩] (0, 0) _ rfl H1.out Tryd.underlying52 rfl (by kernel_rfl)) rfl ?_
    exact ⟨rfl, HB0.out⟩
set_option maxHeartbeats 4000000 in
set_option maxRecDepth 100000 in
theorem tree_nil (w : World) :
    Calls Tryd.prog 23 #[.pointer none] w fun e w' => e = .returned (.agg #[.string ⟨#[]⟩, .int .u8 0, .string ⟨#[]⟩, .slice none 0 0]) ∧ Below w.heap.size w w' := by
  have HZ := Lib.hid (blk_new w (.cells #[.string ⟨#[]⟩, .int .u8 0, .string ⟨#[]⟩, .slice none 0 0] 25))
  have HB := Lib.hid (below_alloc (Below.refl w.heap.size w) (.cells #[.string ⟨#[]⟩, .int .u8 0, .string ⟨#[]⟩, .slice none 0 0] 25))
  go_enter Tryd.func23, Tryd.ntmps23
  go_wp2_with fail
  refine bodyPost_ret (results_c1 rfl _ _ w.heap.size 25 #[.string ⟨#[]⟩, .int .u8 0, .string ⟨#[]⟩, .slice none 0 0] (0, 0) _ rfl HZ.out Tryd.underlying25 rfl (by kernel_rfl)) rfl ?_
  exact ⟨rfl, HB.out⟩
theorem trace_nil (w : World) :
    Calls Tryd.prog 25 #[.pointer none] w fun e w' => e = .returned (.slice none 0 0) ∧ w' = w := by
  go_enter Tryd.func25, Tryd.ntmps25
  go_wp2_with fail
  go_ret
  exact ⟨rfl, rfl⟩
theorem calls_nil (w : World) :
    Calls Tryd.prog 21 #[.pointer none] w fun e w' => e = .returned (.int .i64 0) ∧ w' = w := by
  go_enter Tryd.func21, Tryd.ntmps21
  go_wp2_with fail
  go_ret
  exact ⟨rfl, rfl⟩
end Go.Proofs.YthlcjjhfkldmhaaDoor.G
