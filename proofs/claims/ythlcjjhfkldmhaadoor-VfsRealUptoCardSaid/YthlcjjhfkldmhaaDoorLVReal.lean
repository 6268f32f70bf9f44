/- The law VfsReal, walked. Printed by wip/tools/gen_lvreal.py. -/
import Derived.Test.YthlcjjhfkldmhaaDoorVRealP
import Derived.Test.YthlcjjhfkldmhaaDoorVRReal
import Derived.Test.YthlcjjhfkldmhaaDoorTRight
import Derived.Test.YthlcjjhfkldmhaaDoorVBegins
set_option linter.unusedVariables false
set_option linter.unusedSimpArgs false
namespace Go.Proofs.YthlcjjhfkldmhaaDoor.G
open Go.RowKit Go.Lib Go.Proofs.YthlcjjhfkldmhaaDoorW.PrintWords Go.Proofs.YthlcjjhfkldmhaaDoorW.PrintLast
set_option linter.unusedVariables false
set_option linter.unusedSimpArgs false

set_option maxHeartbeats 4000000 in
theorem rrightV_calls (f : File) (A : Option Addr) (c : Nat) (w : World) (hbk : f.bulk ≤ 1099511627776) (hr : FileK.C w A f.files.length f.files) (hc : f.files.length ≤ c) :
    Calls Tryd.prog 16 #[fileV f A c] w fun e w' => e = .returned (.bool (rightT f)) ∧ Below w.heap.size w w' := by
  have HB := Lib.hid ((Below.refl w.heap.size w).alloc (Nat.le_refl _) (.cells #[.string f.name, .int .u8 f.kind, .string f.data, .slice A f.files.length c] 25))
  have HW := Lib.hid (rcheck_calls f A c _ hbk (Kd.C_below hr HB.out) hc)
  have HS := Lib.hid (show (w.alloc (.cells #[.string f.name, .int .u8 f.kind, .string f.data, .slice A f.files.length c] 25)).heap.size = w.heap.size + 1 by simp)
  unfold rightT
  generalize checkR f = cr at *
  clear hr hbk
  go_enter Tryd.func16, Tryd.ntmps16
  unfold fileV
  go_wp2_with fail
  refine HW.out.mono ?_
  rintro e w1 ⟨v, rfl, ho, hb⟩
  have hb2 := HB.out.trans (hb.mono (by rw [HS.out]; omega))
  obtain ⟨A1, c1, rfl, hc1, hC1⟩ := Kd.R_reads ho
  clear ho hC1 hb HW
  go_wp2_with fail
  go_ret
  exact ⟨rfl, hb2⟩
set_option maxHeartbeats 8000000 in
set_option maxRecDepth 100000 in
theorem lvreal_all (t : File) (A : Option Addr) (c : Nat) (Ap : Option Addr) (cp : Nat) (p : List ByteArray) (last : Bool) (w : World) (ht : FileK.C w A t.files.length t.files) (hc : t.files.length ≤ c) (hbt : t.bulk ≤ 1048576) (hp : Kd.C Kd.string w Ap p.length p) (hcp : p.length ≤ cp) (hps : sumP p ≤ 1048576) :
    Calls Tryd.prog 3 #[fileV t A c, .slice Ap p.length cp, .bool last] w fun e w' => e = .returned (.bool true) ∧ Below w.heap.size w w' := by
  have hb0 := below_alloc (Below.refl w.heap.size w) (.cells #[.string t.name, .int .u8 t.kind, .string t.data, .slice A t.files.length c] 25)
  have hps : P.sumP p ≤ 1048576 := hps
  have hpl := P.sumP_len p
  have I := Lib.hid (Hd.base hb0 (by first | exact Nat.le_refl _ | exact Below.size hb0))
  replace I := Lib.hid (Hd.and I.out (Hd.box (blk_new w (.cells #[.string t.name, .int .u8 t.kind, .string t.data, .slice A t.files.length c] 25))))
  replace I := Lib.hid (Hd.and I.out (Hd.reads (Kd.C_below ht hb0)))
  replace I := Lib.hid (Hd.and I.out (Hd.reads (Kd.C_below hp hb0)))
  obtain ⟨⟨q, why⟩, hres⟩ : ∃ r, realR t p last = r := ⟨_, rfl⟩
  have HRS := Lib.hid hres
  clear hres ht hp
  go_enter Tryd.func3, Tryd.ntmps3
  unfold fileV
  have lt0 := cell_of (j := 0) I.out.now.2.2.1 rfl
  have lt1 := cell_of (j := 1) I.out.now.2.2.1 rfl
  have lt2 := cell_of (j := 2) I.out.now.2.2.1 rfl
  have lt3 := cell_of (j := 3) I.out.now.2.2.1 rfl
  go_wp2_with fail
  clear lt0 lt1 lt2 lt3
  generalize (w.alloc (.cells #[.string t.name, .int .u8 t.kind, .string t.data, .slice A t.files.length c] 25)) = W0 at *
  refine ((rcopyC t A c _ (by omega) I.out.now.2.1 hc)).mono ?_
  rintro e w1 ⟨A1, c1, rfl, hc1, hC1, hq1⟩
  replace I := Lib.hid (Hd.mv I.out hq1)
  replace I := Lib.hid (Hd.and I.out (Hd.reads (hC1)))
  clear hC1
  have ha2 := below_alloc (Below.refl w1.heap.size w1) (.cells #[.string t.name, .int .u8 t.kind, .string t.data, .slice A1 t.files.length c1] 25)
  replace I := Lib.hid (Hd.mv I.out ha2)
  replace I := Lib.hid (Hd.and I.out (Hd.box (blk_new w1 (.cells #[.string t.name, .int .u8 t.kind, .string t.data, .slice A1 t.files.length c1] 25))))
  go_wp2_with fail
  generalize (w1.alloc (.cells #[.string t.name, .int .u8 t.kind, .string t.data, .slice A1 t.files.length c1] 25)) = W2 at *
  refine ((P.rcopy_calls Ap cp p _ I.out.now.2.2.1 hcp (by omega))).mono ?_
  rintro e w3 ⟨v2, rfl, hR2, hq3⟩
  replace I := Lib.hid (Hd.mv I.out hq3)
  obtain ⟨B, d, rfl, hd, hD⟩ := Kd.R_reads hR2
  clear hR2
  replace I := Lib.hid (Hd.and I.out (Hd.reads (hD)))
  clear hD
  have lg0 := cell_of (j := 0) I.out.now.2.1 rfl
  have lg1 := cell_of (j := 1) I.out.now.2.1 rfl
  have lg2 := cell_of (j := 2) I.out.now.2.1 rfl
  have lg3 := cell_of (j := 3) I.out.now.2.1 rfl
  go_wp2_with fail
  clear lg0 lg1 lg2 lg3
  have hrc := real_calls t A1 c1 B d p last _ I.out.now.2.2.1 hc1 (by omega) I.out.now.1 hd (by omega) (by omega)
  rw [HRS.out] at hrc
  refine ((show Calls Tryd.prog 12 #[.agg #[.string t.name, .int .u8 t.kind, .string t.data, .slice A1 t.files.length c1], .slice B p.length d, .bool last] _ _ from hrc)).mono ?_
  rintro e w4 ⟨Q, e5, rfl, he5, hQ, hq4⟩
  replace I := Lib.hid (Hd.mv I.out hq4)
  clear hrc
  simp only at he5 hQ ⊢
  replace I := Lib.hid (Hd.and I.out (Hd.reads (hQ)))
  clear hQ
  go_wp2_with fail
  refine (begins_calls _).mono ?_
  rintro e w5 ⟨rfl, hq5⟩
  replace I := Lib.hid (Hd.mv I.out hq5)
  have lt0 := cell_of (j := 0) I.out.now.2.2.2.2.2.2.1 rfl
  have lt1 := cell_of (j := 1) I.out.now.2.2.2.2.2.2.1 rfl
  have lt2 := cell_of (j := 2) I.out.now.2.2.2.2.2.2.1 rfl
  have lt3 := cell_of (j := 3) I.out.now.2.2.2.2.2.2.1 rfl
  have lg0 := cell_of (j := 0) I.out.now.2.2.1 rfl
  have lg1 := cell_of (j := 1) I.out.now.2.2.1 rfl
  have lg2 := cell_of (j := 2) I.out.now.2.2.1 rfl
  have lg3 := cell_of (j := 3) I.out.now.2.2.1 rfl
  go_wp2_with fail
  clear lt0 lt1 lt2 lt3 lg0 lg1 lg2 lg3
  refine ((sameC t A1 A c1 c _ (by omega) I.out.now.2.2.2.1 hc1 I.out.now.2.2.2.2.2.1 hc)).mono ?_
  rintro e w6 ⟨rfl, hq6⟩
  replace I := Lib.hid (Hd.mv I.out hq6)
  go_wp2_with fail
  refine ((rsame_one B d Ap cp p _ I.out.now.2.1 hd I.out.now.2.2.2.2.1 hcp (by omega))).mono ?_
  rintro e w7 ⟨rfl, hq7⟩
  replace I := Lib.hid (Hd.mv I.out hq7)
  have lt0 := cell_of (j := 0) I.out.now.2.2.2.2.2.2.1 rfl
  have lt1 := cell_of (j := 1) I.out.now.2.2.2.2.2.2.1 rfl
  have lt2 := cell_of (j := 2) I.out.now.2.2.2.2.2.2.1 rfl
  have lt3 := cell_of (j := 3) I.out.now.2.2.2.2.2.2.1 rfl
  go_wp2_with fail
  clear lt0 lt1 lt2 lt3
  refine ((show Calls Tryd.prog 16 #[.agg #[.string t.name, .int .u8 t.kind, .string t.data, .slice A t.files.length c]] _ _ from rrightV_calls t A c _ (by omega) I.out.now.2.2.2.2.2.1 hc)).mono ?_
  rintro e w8 ⟨rfl, hq8⟩
  replace I := Lib.hid (Hd.mv I.out hq8)
  have HRT := Lib.hid (show (if rightT t = true then (if P.rightB p = true then ((walkR t p last).1, (walkR t p last).2.2.2) else ([], 20)) else ([], 30)) = (q, why) from HRS.out)
  cases hrt : rightT t
  · skip
    have h9 := HRT.out
    rw [if_neg (by rw [hrt]; decide)] at h9
    injection h9 with h8 h9
    subst h8 h9
    go_wp2_with fail
    go_ret
    exact ⟨rfl, I.out.now.2.2.2.2.2.2.2⟩
  go_wp2_with fail
  refine (P.rright_calls Ap cp p _ I.out.now.2.2.2.2.1 hcp (by omega) (by omega)).mono ?_
  rintro e w40 ⟨rfl, rfl⟩
  cases hpr : P.rightB p
  · skip
    have h9 := HRT.out
    rw [if_pos hrt, if_neg (by rw [hpr]; decide)] at h9
    injection h9 with h8 h9
    subst h8 h9
    go_wp2_with fail
    go_ret
    exact ⟨rfl, I.out.now.2.2.2.2.2.2.2⟩
  have h9 := HRT.out
  rw [if_pos hrt, if_pos hpr] at h9
  injection h9 with h8 h9
  have hql : q.length ≤ 64 := by
    by_cases hw : why = 0
    · obtain ⟨h1, h2, h3, h4⟩ := real_good (t := t) (p := p) (last := last) (by rw [HRS.out]; exact hw)
      have h5 := ((walk_sound t (right_wrong h1).2 p last).2 h3).1
      rw [h8] at h5
      exact h5
    · have h := real_bad (t := t) (p := p) (last := last) (by rw [HRS.out]; exact hw)
      rw [HRS.out] at h
      rw [show q = [] from h]
      decide
  have lt0 := cell_of (j := 0) I.out.now.2.2.2.2.2.2.1 rfl
  have lt1 := cell_of (j := 1) I.out.now.2.2.2.2.2.2.1 rfl
  have lt2 := cell_of (j := 2) I.out.now.2.2.2.2.2.2.1 rfl
  have lt3 := cell_of (j := 3) I.out.now.2.2.2.2.2.2.1 rfl
  go_wp2_with fail
  clear lt0 lt1 lt2 lt3
  have hrc := rreal_calls t A c Ap cp p last _ I.out.now.2.2.2.2.2.1 hc (by omega) (right_sort hrt) I.out.now.2.2.2.2.1 hcp (by omega) (by omega)
  rw [h8, h9] at hrc
  refine ((show Calls Tryd.prog 18 #[.agg #[.string t.name, .int .u8 t.kind, .string t.data, .slice A t.files.length c], .slice Ap p.length cp, .bool last] _ _ from hrc)).mono ?_
  rintro e w9 ⟨R, r5, rfl, hr5, hRR, hq9⟩
  replace I := Lib.hid (Hd.mv I.out hq9)
  clear hrc
  replace I := Lib.hid (Hd.and I.out (Hd.reads (hRR)))
  clear hRR
  go_wp2_with fail
  refine ((rsame_one Q e5 R r5 q _ I.out.now.2.1 he5 I.out.now.1 hr5 (by omega))).mono ?_
  rintro e w10 ⟨rfl, hq10⟩
  replace I := Lib.hid (Hd.mv I.out hq10)
  have kw : (why == why) = true := by simp
  go_wp2_with fail
  go_ret
  exact ⟨rfl, I.out.now.2.2.2.2.2.2.2.2⟩
end Go.Proofs.YthlcjjhfkldmhaaDoor.G
