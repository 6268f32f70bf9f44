/- vfs.Real, its path as a footprint of new blocks. Printed by wip/tools/gen_vrealf.py. -/
import Derived.Test.YthlcjjhfkldmhaaDoorVReal
import Derived.Test.YthlcjjhfkldmhaaDoorTRight
set_option linter.unusedVariables false
set_option linter.unusedSimpArgs false
namespace Go.Proofs.YthlcjjhfkldmhaaDoor.G
open Go.RowKit Go.Lib Go.Proofs.YthlcjjhfkldmhaaDoorW.PrintWords Go.Proofs.YthlcjjhfkldmhaaDoorW.PrintLast
set_option linter.unusedVariables false
set_option linter.unusedSimpArgs false

set_option maxHeartbeats 8000000 in
set_option maxRecDepth 100000 in
theorem realF_calls (t : File) (A : Option Addr) (c : Nat) (Ap : Option Addr) (cp : Nat) (p : List ByteArray) (last : Bool) (w : World) (ht : FileK.C w A t.files.length t.files) (hc : t.files.length ≤ c) (hbt : t.bulk ≤ 1099511627776) (hp : Kd.C Kd.string w Ap p.length p) (hcp : p.length ≤ cp) (hpl : p.length ≤ 1099511627776) (hps : P.sumP p ≤ 1099511627776) :
    Calls Tryd.prog 12 #[fileV t A c, .slice Ap p.length cp, .bool last] w fun e w' => ∃ B d, e = .returned (.tuple #[.slice B (realR t p last).1.length d, .int .i64 (realR t p last).2]) ∧ (realR t p last).1.length ≤ d ∧ Kd.F Kd.string w' (fun k => w.heap.size ≤ k) B (realR t p last).1.length (realR t p last).1 ∧ Below w.heap.size w w' := by
  have hb0 := below_alloc (Below.refl w.heap.size w) (.cells #[.string t.name, .int .u8 t.kind, .string t.data, .slice A t.files.length c] 25)
  have I := Lib.hid (Hd.base hb0 (by first | exact Nat.le_refl _ | exact Below.size hb0))
  replace I := Lib.hid (Hd.and I.out (Hd.box (blk_new w (.cells #[.string t.name, .int .u8 t.kind, .string t.data, .slice A t.files.length c] 25))))
  replace I := Lib.hid (Hd.and I.out (Hd.reads (Kd.C_below ht hb0)))
  replace I := Lib.hid (Hd.and I.out (Hd.reads (Kd.C_below hp hb0)))
  have HCR := Lib.hid (check_why t)
  obtain ⟨res, hres⟩ : ∃ r, realR t p last = r := ⟨_, rfl⟩
  rw [hres]
  unfold realR at hres
  have HR := Lib.hid hres
  have HRT : Hid (rightT t = ((checkR t).1 == 0)) := Lib.hid rfl
  clear hres ht hp
  go_enter Tryd.func12, Tryd.ntmps12
  unfold fileV
  have lt0 := cell_of (j := 0) I.out.now.2.2.1 rfl
  have lt1 := cell_of (j := 1) I.out.now.2.2.1 rfl
  have lt2 := cell_of (j := 2) I.out.now.2.2.1 rfl
  have lt3 := cell_of (j := 3) I.out.now.2.2.1 rfl
  go_wp2_with fail
  clear lt0 lt1 lt2 lt3
  generalize (w.alloc (.cells #[.string t.name, .int .u8 t.kind, .string t.data, .slice A t.files.length c] 25)) = W0 at *
  refine ((show Calls Tryd.prog 33 #[.agg #[.string t.name, .int .u8 t.kind, .string t.data, .slice A t.files.length c]] _ _ from check_calls t A c _ (by omega) I.out.now.2.1 hc)).mono ?_
  rintro e w1 ⟨v1, rfl, hR1, hq1⟩
  replace I := Lib.hid (Hd.mv I.out hq1)
  obtain ⟨A1, c1, rfl, hc1, hC1⟩ := Kd.R_reads hR1
  clear hR1 hC1
  obtain ⟨why, hwhy⟩ : ∃ k, (checkR t).1 = k := ⟨_, rfl⟩
  rw [hwhy] at HCR HRT ⊢
  clear hwhy
  by_cases hk : why = 0
  rotate_left
  · skip
    have k1 : (why != 0) = true := by rw [bne_iff_ne]; exact hk
    have hrt : rightT t = false := by rw [HRT.out]; exact beq_eq_false_iff_ne.2 hk
    have HR1 := Lib.hid (show ([], 30) = res from by have h := HR.out; rw [if_neg (by rw [hrt]; decide)] at h; exact h)
    obtain rfl : why = 30 := HCR.out.resolve_left hk
    clear hk hrt
    go_wp2_with fail
    go_ret2
    rw [← HR1.out]
    exact ⟨none, 0, rfl, Nat.le_refl _, Kd.F_nil Kd.string _ _, I.out.now.2.2.2⟩
  · skip
    subst hk
    have hrt : rightT t = true := by rw [HRT.out]; rfl
    have HR1 := HR.out
    rw [if_pos hrt] at HR1
    replace HR1 := Lib.hid HR1
    clear hrt
    go_wp2_with fail
    refine (P.right_calls Ap cp p _ I.out.now.1 hcp (by omega) (by omega)).mono ?_
    rintro e w2 ⟨rfl, hq2⟩
    replace I := Lib.hid (Hd.mv I.out hq2)
    cases hpr : P.rightB p
    · skip
      have HR2 := Lib.hid (show ([], 20) = res from by have h := HR1.out; rw [if_neg (by rw [hpr]; decide)] at h; exact h)
      go_wp2_with fail
      go_ret2
      rw [← HR2.out]
      exact ⟨none, 0, rfl, Nat.le_refl _, Kd.F_nil Kd.string _ _, I.out.now.2.2.2⟩
    · skip
      have HR2 := HR1.out
      rw [if_pos hpr] at HR2
      replace HR2 := Lib.hid HR2
      have lt0 := cell_of (j := 0) I.out.now.2.2.1 rfl
      have lt1 := cell_of (j := 1) I.out.now.2.2.1 rfl
      have lt2 := cell_of (j := 2) I.out.now.2.2.1 rfl
      have lt3 := cell_of (j := 3) I.out.now.2.2.1 rfl
      go_wp2_with fail
      clear lt0 lt1 lt2 lt3
      refine ((show Calls Tryd.prog 35 #[.agg #[.string t.name, .int .u8 t.kind, .string t.data, .slice A t.files.length c], .slice Ap p.length cp, .bool last] _ _ from walk_calls t A c Ap cp p last _ _ (Below.refl _ _) I.out.now.2.1 hc (by omega) I.out.now.1 hcp (by omega) (by omega))).mono ?_
      rintro e w3 ⟨B, d, A2, c2, rfl, hd, hD, hc2, hC2, hq3⟩
      replace I := Lib.hid (Hd.mv I.out hq3)
      obtain ⟨⟨q, x, is, k⟩, hq⟩ : ∃ r, walkR t p last = r := ⟨_, rfl⟩
      have HR3 := HR2.out
      rw [hq] at HR3 hd hD hc2 hC2
      rw [hq]
      simp only at HR3 hd hD hc2 hC2 ⊢
      replace HR3 := Lib.hid HR3
      clear hq hC2
      have hFQ : Kd.F Kd.string w3 (fun k => w.heap.size ≤ k) B q.length q := fun W' hW => hD W' fun k h1 h2 => hW k (by have e0 := hb0.size; have e1 := hq1.size; have e2 := hq2.size; omega) h2
      replace I := Lib.hid (Hd.and I.out (Hd.F hFQ))
      clear hD hFQ
      have ha4 := below_alloc (Below.refl w3.heap.size w3) (.cells #[.string x.name, .int .u8 x.kind, .string x.data, .slice A2 x.files.length c2] 25)
      replace I := Lib.hid (Hd.mv I.out ha4)
      replace I := Lib.hid (Hd.and I.out (Hd.box (blk_new w3 (.cells #[.string x.name, .int .u8 x.kind, .string x.data, .slice A2 x.files.length c2] 25))))
      go_wp2_with fail
      go_ret2
      rw [← HR3.out]
      exact ⟨B, d, rfl, hd, I.out.now.2.1, I.out.now.2.2.2.2.2⟩
end Go.Proofs.YthlcjjhfkldmhaaDoor.G
