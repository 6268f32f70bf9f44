/- paddockref03.Get, Put, Drop; trees.Put and Drop at the empty path. Printed by wip/tools/gen_turnsw.py. -/
import Derived.Test.YtdnhjnlhmfajnaaDoorTHd
import Derived.Test.YtdnhjnlhmfajnaaDoorTRWith
import Derived.Test.YtdnhjnlhmfajnaaDoorTRFind
import Derived.Test.YtdnhjnlhmfajnaaDoorTRight
import Derived.Test.YtdnhjnlhmfajnaaDoorTPut
import Derived.Test.YtdnhjnlhmfajnaaDoorTTurnsP
namespace Go.Proofs.YtdnhjnlhmfajnaaDoor.G
open Go.RowKit Go.Lib Go.Proofs.YtdnhjnlhmfajnaaDoorW.PrintWords Go.Proofs.YtdnhjnlhmfajnaaDoorW.PrintLast
set_option linter.unusedVariables false
set_option linter.unusedSimpArgs false

def rgetR (t : File) (p : List ByteArray) : File × Int := if rightT t = true then (if (findR t p).2 = 0 then ((findR t p).1, 0) else (zeroF, (findR t p).2)) else (zeroF, 30)
def rdropR (t : File) (p : List ByteArray) : File × Int := if rightT t = true then (if p.length = 0 then (zeroF, 2) else if (findR t p).2 = 0 then (withR true zeroF p t, 0) else (zeroF, (findR t p).2)) else (zeroF, 30)
def nilR (t : File) : File × Int := if rightT t = true then (zeroF, 2) else (zeroF, 30)
theorem findR_bulk : ∀ (p : List ByteArray) (t : File), (findR t p).1.bulk ≤ t.bulk + 4
  | [], t => Nat.le_add_right _ _
  | n :: p, t => by
    have h0 : zeroF.bulk = 4 := by rw [bulk_eq]; rfl
    rw [findR]
    split
    · cases hx : t.files.find? (nameIs n) with
      | none => show zeroF.bulk ≤ _; omega
      | some x =>
        have h1 := findR_bulk p x
        have h2 := bulk_child (List.mem_of_find?_eq_some hx)
        show (findR x p).1.bulk ≤ _
        omega
    · show zeroF.bulk ≤ _; omega

set_option maxHeartbeats 8000000 in
set_option maxRecDepth 100000 in
theorem rget_calls (t : File) (A : Option Addr) (c : Nat) (Ap : Option Addr) (cp : Nat) (p : List ByteArray) (w : World) (ht : FileK.C w A t.files.length t.files) (hc : t.files.length ≤ c) (hbt : t.bulk ≤ 1000000000) (hp : Kd.C Kd.string w Ap p.length p) (hcp : p.length ≤ cp) (hpl : p.length ≤ 1000000000) :
    Calls Tryd.prog 21 #[fileV t A c, .slice Ap p.length cp] w fun e w' => ∃ A' c', e = .returned (.tuple #[.agg #[.string (rgetR t p).1.name, .int .u8 (rgetR t p).1.kind, .string (rgetR t p).1.data, .slice A' (rgetR t p).1.files.length c'], .int .i64 (rgetR t p).2]) ∧ (rgetR t p).1.files.length ≤ c' ∧ FileK.C w' A' (rgetR t p).1.files.length (rgetR t p).1.files ∧ Below w.heap.size w w' := by
  have h2 := two_boxes w #[.string t.name, .int .u8 t.kind, .string t.data, .slice A t.files.length c] #[.string ⟨#[]⟩, .int .u8 0, .string ⟨#[]⟩, .slice none 0 0] 25 25
  have hb0 := ((Below.refl w.heap.size w).alloc (Nat.le_refl _) (.cells #[.string t.name, .int .u8 t.kind, .string t.data, .slice A t.files.length c] 25)).alloc (by simp) (.cells #[.string ⟨#[]⟩, .int .u8 0, .string ⟨#[]⟩, .slice none 0 0] 25)
  have I := Lib.hid (Hd.base hb0 (by first | exact Nat.le_refl _ | exact Below.size hb0))
  replace I := Lib.hid (Hd.and I.out (Hd.box (h2.1)))
  replace I := Lib.hid (Hd.and I.out (Hd.box (h2.2)))
  replace I := Lib.hid (Hd.and I.out (Hd.reads (Kd.C_below ht hb0)))
  clear h2
  replace I := Lib.hid (Hd.and I.out (Hd.reads (Kd.C_below hp hb0)))
  have HG : Hid (rgetR t p = _) := Lib.hid rfl
  clear ht hp
  obtain ⟨gr, hgr⟩ : ∃ g, rgetR t p = g := ⟨_, rfl⟩
  rw [hgr] at HG ⊢
  unfold rgetR at hgr
  replace HG := Lib.hid hgr
  clear hgr
  go_enter Tryd.func21, Tryd.ntmps21
  unfold fileV
  have lt0 := cell_of (j := 0) I.out.now.2.2.2.1 rfl
  have lt1 := cell_of (j := 1) I.out.now.2.2.2.1 rfl
  have lt2 := cell_of (j := 2) I.out.now.2.2.2.1 rfl
  have lt3 := cell_of (j := 3) I.out.now.2.2.2.1 rfl
  go_wp2_with fail
  clear lt0 lt1 lt2 lt3
  generalize ((w.alloc (.cells #[.string t.name, .int .u8 t.kind, .string t.data, .slice A t.files.length c] 25)).alloc (.cells #[.string ⟨#[]⟩, .int .u8 0, .string ⟨#[]⟩, .slice none 0 0] 25)) = W0 at *
  refine ((show Calls Tryd.prog 45 #[.agg #[.string t.name, .int .u8 t.kind, .string t.data, .slice A t.files.length c]] _ _ from rright_calls t A c _ (by omega) I.out.now.2.1 hc)).mono ?_
  rintro e w1 ⟨rfl, hq1⟩
  replace I := Lib.hid (Hd.mv I.out hq1)
  cases hrt : rightT t
  · skip
    have HG1 := HG.out
    rw [hrt, if_neg (by decide)] at HG1
    replace HG1 := Lib.hid HG1
    have HZ := I.out.now.2.2.1
    have HZF := Lib.hid (store4_box HZ (.string ⟨#[]⟩) (.int .u8 0) (.string ⟨#[]⟩) (.slice none 0 0))
    have HB9 := Lib.hid (store4_below I.out.now.2.2.2.2 (g := w.heap.size + 1) (by omega) (.string ⟨#[]⟩) (.int .u8 0) (.string ⟨#[]⟩) (.slice none 0 0))
    have z0 := cell_of (j := 0) HZ rfl
    have u0 := unfr HZ 0
    have z1 := cell_of (j := 1) HZ rfl
    have u1 := unfr HZ 1
    have z2 := cell_of (j := 2) HZ rfl
    have u2 := unfr HZ 2
    have z3 := cell_of (j := 3) HZ rfl
    have u3 := unfr HZ 3
    go_wp2_with fail
    refine bodyPost_ret (results_ct rfl _ _ (w.heap.size + 1) 25 #[.string ⟨#[]⟩, .int .u8 0, .string ⟨#[]⟩, .slice none 0 0] (0, 0) _ rfl HZF.out Tryd.underlying25 rfl (by kernel_rfl)) rfl ?_
    rw [← HG1.out]
    exact ⟨none, 0, rfl, Nat.le_refl _, Kd.C_nil FileK _, HB9.out⟩
  · skip
    have HG1 := HG.out
    rw [if_pos hrt] at HG1
    replace HG1 := Lib.hid HG1
    have lt0 := cell_of (j := 0) I.out.now.2.2.2.1 rfl
    have lt1 := cell_of (j := 1) I.out.now.2.2.2.1 rfl
    have lt2 := cell_of (j := 2) I.out.now.2.2.2.1 rfl
    have lt3 := cell_of (j := 3) I.out.now.2.2.2.1 rfl
    go_wp2_with fail
    clear lt0 lt1 lt2 lt3
    have hfb := findR_bulk p t
    refine ((show Calls Tryd.prog 49 #[.agg #[.string t.name, .int .u8 t.kind, .string t.data, .slice A t.files.length c], .slice Ap p.length cp] _ _ from rfind_calls t A c Ap cp p _ I.out.now.2.1 hc (by omega) I.out.now.1 hcp (by omega))).mono ?_
    rintro e w2 ⟨A1, c1, rfl, hc1, hC1, hq2⟩
    replace I := Lib.hid (Hd.mv I.out hq2)
    obtain ⟨⟨y, k⟩, hy⟩ : ∃ g, findR t p = g := ⟨_, rfl⟩
    rw [hy] at HG1 hc1 hC1 hfb ⊢
    simp only at HG1 hc1 hC1 hfb ⊢
    clear hy
    replace I := Lib.hid (Hd.and I.out (Hd.reads (Kd.C_below hC1 hq2)))
    clear hC1
    have ha3 := below_alloc (Below.refl w2.heap.size w2) (.cells #[.string y.name, .int .u8 y.kind, .string y.data, .slice A1 y.files.length c1] 25)
    replace I := Lib.hid (Hd.mv I.out ha3)
    replace I := Lib.hid (Hd.and I.out (Hd.box (blk_new w2 (.cells #[.string y.name, .int .u8 y.kind, .string y.data, .slice A1 y.files.length c1] 25))))
    by_cases hk : k = 0
    rotate_left
    · skip
      have HG2 := HG1.out
      rw [if_neg hk] at HG2
      replace HG2 := Lib.hid HG2
      have k1 : (k != 0) = true := by rw [bne_iff_ne]; exact hk
      have HZ := I.out.now.2.2.2.2.1
      have HZF := Lib.hid (store4_box HZ (.string ⟨#[]⟩) (.int .u8 0) (.string ⟨#[]⟩) (.slice none 0 0))
      have HB9 := Lib.hid (store4_below I.out.now.2.2.2.2.2.2 (g := w.heap.size + 1) (by omega) (.string ⟨#[]⟩) (.int .u8 0) (.string ⟨#[]⟩) (.slice none 0 0))
      have z0 := cell_of (j := 0) HZ rfl
      have u0 := unfr HZ 0
      have z1 := cell_of (j := 1) HZ rfl
      have u1 := unfr HZ 1
      have z2 := cell_of (j := 2) HZ rfl
      have u2 := unfr HZ 2
      have z3 := cell_of (j := 3) HZ rfl
      have u3 := unfr HZ 3
      go_wp2_with fail
      refine bodyPost_ret (results_ct rfl _ _ (w.heap.size + 1) 25 #[.string ⟨#[]⟩, .int .u8 0, .string ⟨#[]⟩, .slice none 0 0] (0, 0) _ rfl HZF.out Tryd.underlying25 rfl (by kernel_rfl)) rfl ?_
      rw [← HG2.out]
      exact ⟨none, 0, rfl, Nat.le_refl _, Kd.C_nil FileK _, HB9.out⟩
    · skip
      subst hk
      have HG2 := HG1.out
      rw [if_pos rfl] at HG2
      replace HG2 := Lib.hid HG2
      have ly0 := cell_of (j := 0) I.out.now.1 rfl
      have ly1 := cell_of (j := 1) I.out.now.1 rfl
      have ly2 := cell_of (j := 2) I.out.now.1 rfl
      have ly3 := cell_of (j := 3) I.out.now.1 rfl
      go_wp2_with fail
      clear ly0 ly1 ly2 ly3
      generalize (w2.alloc (.cells #[.string y.name, .int .u8 y.kind, .string y.data, .slice A1 y.files.length c1] 25)) = W3 at *
      have hzl := blk_lt I.out.now.2.2.2.2.1
      refine ((show Calls Tryd.prog 12 #[.agg #[.string y.name, .int .u8 y.kind, .string y.data, .slice A1 y.files.length c1]] _ _ from rcopy_file y.bulk y A1 c1 _ (Nat.le_refl _) (by omega) I.out.now.2.1 hc1)).mono ?_
      rintro e w4 ⟨v, rfl, hR, hq4⟩
      replace I := Lib.hid (Hd.mv I.out hq4)
      obtain ⟨A2, c2, rfl, hc2, hC2⟩ := Kd.R_reads hR
      have HR2 := Lib.hid hR
      clear hR hC2
      have HZ := I.out.now.2.2.2.2.1
      have HZF := Lib.hid (store4_box HZ (.string y.name) (.int .u8 y.kind) (.string y.data) (.slice A2 y.files.length c2))
      have HB9 := Lib.hid (store4_below I.out.now.2.2.2.2.2.2 (g := w.heap.size + 1) (by omega) (.string y.name) (.int .u8 y.kind) (.string y.data) (.slice A2 y.files.length c2))
      have z0 := cell_of (j := 0) HZ rfl
      have u0 := unfr HZ 0
      have z1 := cell_of (j := 1) HZ rfl
      have u1 := unfr HZ 1
      have z2 := cell_of (j := 2) HZ rfl
      have u2 := unfr HZ 2
      have z3 := cell_of (j := 3) HZ rfl
      have u3 := unfr HZ 3
      go_wp2_with fail
      refine bodyPost_ret (results_ct rfl _ _ (w.heap.size + 1) 25 #[.string y.name, .int .u8 y.kind, .string y.data, .slice A2 y.files.length c2] (0, 0) _ rfl HZF.out Tryd.underlying25 rfl (by kernel_rfl)) rfl ?_
      rw [← HG2.out]
      refine ⟨A2, c2, rfl, hc2, ?_, HB9.out⟩
      exact (Kd.R_reads' (Kd.R_step (Kd.R_bound HR2.out) fun k hk _ => store4_other _ (g := w.heap.size + 1) (by omega) _ _ _ _)).2.2

set_option maxHeartbeats 8000000 in
set_option maxRecDepth 100000 in
theorem rdrop_calls (t : File) (A : Option Addr) (c : Nat) (Ap : Option Addr) (cp : Nat) (p : List ByteArray) (w : World) (ht : FileK.C w A t.files.length t.files) (hc : t.files.length ≤ c) (hbt : t.bulk ≤ 1000000000) (hp : Kd.C Kd.string w Ap p.length p) (hcp : p.length ≤ cp) (hpl : p.length ≤ 1000000000) :
    Calls Tryd.prog 25 #[fileV t A c, .slice Ap p.length cp] w fun e w' => ∃ A' c', e = .returned (.tuple #[.agg #[.string (rdropR t p).1.name, .int .u8 (rdropR t p).1.kind, .string (rdropR t p).1.data, .slice A' (rdropR t p).1.files.length c'], .int .i64 (rdropR t p).2]) ∧ (rdropR t p).1.files.length ≤ c' ∧ FileK.C w' A' (rdropR t p).1.files.length (rdropR t p).1.files ∧ Below w.heap.size w w' := by
  have h2 := two_boxes w #[.string t.name, .int .u8 t.kind, .string t.data, .slice A t.files.length c] #[.string ⟨#[]⟩, .int .u8 0, .string ⟨#[]⟩, .slice none 0 0] 25 25
  have hb0 := ((Below.refl w.heap.size w).alloc (Nat.le_refl _) (.cells #[.string t.name, .int .u8 t.kind, .string t.data, .slice A t.files.length c] 25)).alloc (by simp) (.cells #[.string ⟨#[]⟩, .int .u8 0, .string ⟨#[]⟩, .slice none 0 0] 25)
  have I := Lib.hid (Hd.base hb0 (by first | exact Nat.le_refl _ | exact Below.size hb0))
  replace I := Lib.hid (Hd.and I.out (Hd.box (h2.1)))
  replace I := Lib.hid (Hd.and I.out (Hd.box (h2.2)))
  replace I := Lib.hid (Hd.and I.out (Hd.reads (Kd.C_below ht hb0)))
  clear h2
  replace I := Lib.hid (Hd.and I.out (Hd.reads (Kd.C_below hp hb0)))
  obtain ⟨gr, hgr⟩ : ∃ g, rdropR t p = g := ⟨_, rfl⟩
  rw [hgr]
  unfold rdropR at hgr
  have HG := Lib.hid hgr
  clear hgr ht hp
  go_enter Tryd.func25, Tryd.ntmps25
  unfold fileV
  have lt0 := cell_of (j := 0) I.out.now.2.2.2.1 rfl
  have lt1 := cell_of (j := 1) I.out.now.2.2.2.1 rfl
  have lt2 := cell_of (j := 2) I.out.now.2.2.2.1 rfl
  have lt3 := cell_of (j := 3) I.out.now.2.2.2.1 rfl
  go_wp2_with fail
  clear lt0 lt1 lt2 lt3
  generalize ((w.alloc (.cells #[.string t.name, .int .u8 t.kind, .string t.data, .slice A t.files.length c] 25)).alloc (.cells #[.string ⟨#[]⟩, .int .u8 0, .string ⟨#[]⟩, .slice none 0 0] 25)) = W0 at *
  refine ((show Calls Tryd.prog 45 #[.agg #[.string t.name, .int .u8 t.kind, .string t.data, .slice A t.files.length c]] _ _ from rright_calls t A c _ (by omega) I.out.now.2.1 hc)).mono ?_
  rintro e w1 ⟨rfl, hq1⟩
  replace I := Lib.hid (Hd.mv I.out hq1)
  cases hrt : rightT t
  · skip
    have HG1 := HG.out
    rw [hrt, if_neg (by decide)] at HG1
    replace HG1 := Lib.hid HG1
    have HZ := I.out.now.2.2.1
    have HZF := Lib.hid (store4_box HZ (.string ⟨#[]⟩) (.int .u8 0) (.string ⟨#[]⟩) (.slice none 0 0))
    have HB9 := Lib.hid (store4_below I.out.now.2.2.2.2 (g := w.heap.size + 1) (by omega) (.string ⟨#[]⟩) (.int .u8 0) (.string ⟨#[]⟩) (.slice none 0 0))
    have z0 := cell_of (j := 0) HZ rfl
    have u0 := unfr HZ 0
    have z1 := cell_of (j := 1) HZ rfl
    have u1 := unfr HZ 1
    have z2 := cell_of (j := 2) HZ rfl
    have u2 := unfr HZ 2
    have z3 := cell_of (j := 3) HZ rfl
    have u3 := unfr HZ 3
    go_wp2_with fail
    refine bodyPost_ret (results_ct rfl _ _ (w.heap.size + 1) 25 #[.string ⟨#[]⟩, .int .u8 0, .string ⟨#[]⟩, .slice none 0 0] (0, 0) _ rfl HZF.out Tryd.underlying25 rfl (by kernel_rfl)) rfl ?_
    rw [← HG1.out]
    exact ⟨none, 0, rfl, Nat.le_refl _, Kd.C_nil FileK _, HB9.out⟩
  · skip
    have HG1 := HG.out
    rw [if_pos hrt] at HG1
    replace HG1 := Lib.hid HG1
    by_cases hp0 : p.length = 0
    · skip
      have k0 : ((p.length : Int) == 0) = true := by rw [beq_iff_eq]; omega
      have HG2 := HG1.out
      rw [if_pos hp0] at HG2
      replace HG2 := Lib.hid HG2
      clear hp0
      have HZ := I.out.now.2.2.1
      have HZF := Lib.hid (store4_box HZ (.string ⟨#[]⟩) (.int .u8 0) (.string ⟨#[]⟩) (.slice none 0 0))
      have HB9 := Lib.hid (store4_below I.out.now.2.2.2.2 (g := w.heap.size + 1) (by omega) (.string ⟨#[]⟩) (.int .u8 0) (.string ⟨#[]⟩) (.slice none 0 0))
      have z0 := cell_of (j := 0) HZ rfl
      have u0 := unfr HZ 0
      have z1 := cell_of (j := 1) HZ rfl
      have u1 := unfr HZ 1
      have z2 := cell_of (j := 2) HZ rfl
      have u2 := unfr HZ 2
      have z3 := cell_of (j := 3) HZ rfl
      have u3 := unfr HZ 3
      go_wp2_with fail
      refine bodyPost_ret (results_ct rfl _ _ (w.heap.size + 1) 25 #[.string ⟨#[]⟩, .int .u8 0, .string ⟨#[]⟩, .slice none 0 0] (0, 0) _ rfl HZF.out Tryd.underlying25 rfl (by kernel_rfl)) rfl ?_
      rw [← HG2.out]
      exact ⟨none, 0, rfl, Nat.le_refl _, Kd.C_nil FileK _, HB9.out⟩
    · skip
      have k0 : ((p.length : Int) == 0) = false := by rw [beq_eq_false_iff_ne]; omega
      have HG2 := HG1.out
      rw [if_neg hp0] at HG2
      replace HG2 := Lib.hid HG2
      have hpn : Hid (p ≠ []) := Lib.hid fun h => hp0 (by rw [h]; rfl)
      clear hp0
      have lt0 := cell_of (j := 0) I.out.now.2.2.2.1 rfl
      have lt1 := cell_of (j := 1) I.out.now.2.2.2.1 rfl
      have lt2 := cell_of (j := 2) I.out.now.2.2.2.1 rfl
      have lt3 := cell_of (j := 3) I.out.now.2.2.2.1 rfl
      go_wp2_with fail
      clear lt0 lt1 lt2 lt3
      refine ((show Calls Tryd.prog 49 #[.agg #[.string t.name, .int .u8 t.kind, .string t.data, .slice A t.files.length c], .slice Ap p.length cp] _ _ from rfind_calls t A c Ap cp p _ I.out.now.2.1 hc (by omega) I.out.now.1 hcp (by omega))).mono ?_
      rintro e w2 ⟨A1, c1, rfl, hc1, hC1, hq2⟩
      replace I := Lib.hid (Hd.mv I.out hq2)
      obtain ⟨⟨y, k⟩, hy⟩ : ∃ g, findR t p = g := ⟨_, rfl⟩
      rw [hy] at HG2 hc1 hC1 ⊢
      simp only at HG2 hc1 hC1 ⊢
      clear hy hC1
      have ha3 := below_alloc (Below.refl w2.heap.size w2) (.cells #[.string y.name, .int .u8 y.kind, .string y.data, .slice A1 y.files.length c1] 25)
      replace I := Lib.hid (Hd.mv I.out ha3)
      replace I := Lib.hid (Hd.and I.out (Hd.box (blk_new w2 (.cells #[.string y.name, .int .u8 y.kind, .string y.data, .slice A1 y.files.length c1] 25))))
      by_cases hk : k = 0
      rotate_left
      · skip
        have HG3 := HG2.out
        rw [if_neg hk] at HG3
        replace HG3 := Lib.hid HG3
        have k1 : (k != 0) = true := by rw [bne_iff_ne]; exact hk
        have HZ := I.out.now.2.2.2.1
        have HZF := Lib.hid (store4_box HZ (.string ⟨#[]⟩) (.int .u8 0) (.string ⟨#[]⟩) (.slice none 0 0))
        have HB9 := Lib.hid (store4_below I.out.now.2.2.2.2.2 (g := w.heap.size + 1) (by omega) (.string ⟨#[]⟩) (.int .u8 0) (.string ⟨#[]⟩) (.slice none 0 0))
        have z0 := cell_of (j := 0) HZ rfl
        have u0 := unfr HZ 0
        have z1 := cell_of (j := 1) HZ rfl
        have u1 := unfr HZ 1
        have z2 := cell_of (j := 2) HZ rfl
        have u2 := unfr HZ 2
        have z3 := cell_of (j := 3) HZ rfl
        have u3 := unfr HZ 3
        go_wp2_with fail
        refine bodyPost_ret (results_ct rfl _ _ (w.heap.size + 1) 25 #[.string ⟨#[]⟩, .int .u8 0, .string ⟨#[]⟩, .slice none 0 0] (0, 0) _ rfl HZF.out Tryd.underlying25 rfl (by kernel_rfl)) rfl ?_
        rw [← HG3.out]
        exact ⟨none, 0, rfl, Nat.le_refl _, Kd.C_nil FileK _, HB9.out⟩
      · skip
        subst hk
        have HG3 := HG2.out
        rw [if_pos rfl] at HG3
        replace HG3 := Lib.hid HG3
        have lt0 := cell_of (j := 0) I.out.now.2.2.2.2.1 rfl
        have lt1 := cell_of (j := 1) I.out.now.2.2.2.2.1 rfl
        have lt2 := cell_of (j := 2) I.out.now.2.2.2.2.1 rfl
        have lt3 := cell_of (j := 3) I.out.now.2.2.2.2.1 rfl
        go_wp2_with fail
        clear lt0 lt1 lt2 lt3
        generalize (w2.alloc (.cells #[.string y.name, .int .u8 y.kind, .string y.data, .slice A1 y.files.length c1] 25)) = W3 at *
        have hzl := blk_lt I.out.now.2.2.2.1
        refine ((show Calls Tryd.prog 52 #[.agg #[.string t.name, .int .u8 t.kind, .string t.data, .slice A t.files.length c], .slice Ap p.length cp, .agg #[.string ⟨#[]⟩, .int .u8 0, .string ⟨#[]⟩, .slice none 0 0], .bool true] _ _ from rwith_calls true zeroF none 0 p t A c Ap cp (fun _ => False) _ hpn.out I.out.now.2.2.1 hc (by omega) I.out.now.2.1 hcp (by omega) (Kd.R_nil FileK _ _ 0 _) (fun _ h => h.elim))).mono ?_
        rintro e w4 ⟨v, rfl, hR, hq4⟩
        replace I := Lib.hid (Hd.mv I.out hq4)
        have hwk := withR_keep true zeroF p t
        obtain ⟨u, hu⟩ : ∃ u, withR true zeroF p t = u := ⟨_, rfl⟩
        rw [hu] at hR hwk HG3
        obtain ⟨hu1, hu2, hu3⟩ := hwk
        rw [← hu1, ← hu2, ← hu3]
        clear hu
        obtain ⟨A2, c2, rfl, hc2, hC2⟩ := Kd.R_reads hR
        have HR2 := Lib.hid hR
        clear hR hC2 hu1 hu2 hu3
        have HZ := I.out.now.2.2.2.1
        have HZF := Lib.hid (store4_box HZ (.string u.name) (.int .u8 u.kind) (.string u.data) (.slice A2 u.files.length c2))
        have HB9 := Lib.hid (store4_below I.out.now.2.2.2.2.2 (g := w.heap.size + 1) (by omega) (.string u.name) (.int .u8 u.kind) (.string u.data) (.slice A2 u.files.length c2))
        have z0 := cell_of (j := 0) HZ rfl
        have u0 := unfr HZ 0
        have z1 := cell_of (j := 1) HZ rfl
        have u1 := unfr HZ 1
        have z2 := cell_of (j := 2) HZ rfl
        have u2 := unfr HZ 2
        have z3 := cell_of (j := 3) HZ rfl
        have u3 := unfr HZ 3
        go_wp2_with fail
        refine bodyPost_ret (results_ct rfl _ _ (w.heap.size + 1) 25 #[.string u.name, .int .u8 u.kind, .string u.data, .slice A2 u.files.length c2] (0, 0) _ rfl HZF.out Tryd.underlying25 rfl (by kernel_rfl)) rfl ?_
        rw [← HG3.out]
        refine ⟨A2, c2, rfl, hc2, ?_, HB9.out⟩
        exact (Kd.R_reads' (Kd.R_step (Kd.R_bound HR2.out) fun k hk _ => store4_other _ (g := w.heap.size + 1) (hk.1.elim (fun h => h.elim) fun h => by omega) _ _ _ _)).2.2

set_option maxHeartbeats 8000000 in
set_option maxRecDepth 100000 in
theorem tput0_calls (t f : File) (A Af : Option Addr) (c cf : Nat) (Ap : Option Addr) (cp : Nat) (w : World) (ht : FileK.C w A t.files.length t.files) (hc : t.files.length ≤ c) (hbt : t.bulk ≤ 1000000000) :
    Calls Tryd.prog 22 #[fileV t A c, .slice Ap 0 cp, fileV f Af cf] w fun e w' => ∃ A' c', e = .returned (.tuple #[.agg #[.string (nilR t).1.name, .int .u8 (nilR t).1.kind, .string (nilR t).1.data, .slice A' (nilR t).1.files.length c'], .int .i64 (nilR t).2]) ∧ (nilR t).1.files.length ≤ c' ∧ FileK.C w' A' (nilR t).1.files.length (nilR t).1.files ∧ Below w.heap.size w w' := by
  have h2 := three_all w #[.string t.name, .int .u8 t.kind, .string t.data, .slice A t.files.length c] #[.string f.name, .int .u8 f.kind, .string f.data, .slice Af f.files.length cf] #[.string ⟨#[]⟩, .int .u8 0, .string ⟨#[]⟩, .slice none 0 0] 25 25 25
  have hb0 := (((Below.refl w.heap.size w).alloc (Nat.le_refl _) (.cells #[.string t.name, .int .u8 t.kind, .string t.data, .slice A t.files.length c] 25)).alloc (by simp) (.cells #[.string f.name, .int .u8 f.kind, .string f.data, .slice Af f.files.length cf] 25)).alloc (by simp; omega) (.cells #[.string ⟨#[]⟩, .int .u8 0, .string ⟨#[]⟩, .slice none 0 0] 25)
  have I := Lib.hid (Hd.base hb0 (by first | exact Nat.le_refl _ | exact Below.size hb0))
  replace I := Lib.hid (Hd.and I.out (Hd.box (h2.1)))
  replace I := Lib.hid (Hd.and I.out (Hd.box (h2.2.1)))
  replace I := Lib.hid (Hd.and I.out (Hd.box (h2.2.2)))
  replace I := Lib.hid (Hd.and I.out (Hd.reads (Kd.C_below ht hb0)))
  clear h2
  obtain ⟨gr, hgr⟩ : ∃ g, nilR t = g := ⟨_, rfl⟩
  rw [hgr]
  unfold nilR at hgr
  have HG := Lib.hid hgr
  clear hgr ht
  go_enter Tryd.func22, Tryd.ntmps22
  unfold fileV
  have lt0 := cell_of (j := 0) I.out.now.2.2.2.1 rfl
  have lt1 := cell_of (j := 1) I.out.now.2.2.2.1 rfl
  have lt2 := cell_of (j := 2) I.out.now.2.2.2.1 rfl
  have lt3 := cell_of (j := 3) I.out.now.2.2.2.1 rfl
  go_wp2_with fail
  clear lt0 lt1 lt2 lt3
  generalize (((w.alloc (.cells #[.string t.name, .int .u8 t.kind, .string t.data, .slice A t.files.length c] 25)).alloc (.cells #[.string f.name, .int .u8 f.kind, .string f.data, .slice Af f.files.length cf] 25)).alloc (.cells #[.string ⟨#[]⟩, .int .u8 0, .string ⟨#[]⟩, .slice none 0 0] 25)) = W0 at *
  refine ((show Calls Tryd.prog 28 #[.agg #[.string t.name, .int .u8 t.kind, .string t.data, .slice A t.files.length c]] _ _ from right_calls t A c _ (by omega) I.out.now.1 hc)).mono ?_
  rintro e w1 ⟨rfl, hq1⟩
  replace I := Lib.hid (Hd.mv I.out hq1)
  cases hrt : rightT t
  · skip
    have HG1 := HG.out
    rw [hrt, if_neg (by decide)] at HG1
    replace HG1 := Lib.hid HG1
    have HZ := I.out.now.2.1
    have HZF := Lib.hid (store4_box HZ (.string ⟨#[]⟩) (.int .u8 0) (.string ⟨#[]⟩) (.slice none 0 0))
    have HB9 := Lib.hid (store4_below I.out.now.2.2.2.2 (g := w.heap.size + 2) (by omega) (.string ⟨#[]⟩) (.int .u8 0) (.string ⟨#[]⟩) (.slice none 0 0))
    have z0 := cell_of (j := 0) HZ rfl
    have u0 := unfr HZ 0
    have z1 := cell_of (j := 1) HZ rfl
    have u1 := unfr HZ 1
    have z2 := cell_of (j := 2) HZ rfl
    have u2 := unfr HZ 2
    have z3 := cell_of (j := 3) HZ rfl
    have u3 := unfr HZ 3
    go_wp2_with fail
    refine bodyPost_ret (results_ct rfl _ _ (w.heap.size + 2) 25 #[.string ⟨#[]⟩, .int .u8 0, .string ⟨#[]⟩, .slice none 0 0] (0, 0) _ rfl HZF.out Tryd.underlying25 rfl (by kernel_rfl)) rfl ?_
    rw [← HG1.out]
    exact ⟨none, 0, rfl, Nat.le_refl _, Kd.C_nil FileK _, HB9.out⟩
  · skip
    have HG1 := HG.out
    rw [if_pos hrt] at HG1
    replace HG1 := Lib.hid HG1
    have HZ := I.out.now.2.1
    have HZF := Lib.hid (store4_box HZ (.string ⟨#[]⟩) (.int .u8 0) (.string ⟨#[]⟩) (.slice none 0 0))
    have HB9 := Lib.hid (store4_below I.out.now.2.2.2.2 (g := w.heap.size + 2) (by omega) (.string ⟨#[]⟩) (.int .u8 0) (.string ⟨#[]⟩) (.slice none 0 0))
    have z0 := cell_of (j := 0) HZ rfl
    have u0 := unfr HZ 0
    have z1 := cell_of (j := 1) HZ rfl
    have u1 := unfr HZ 1
    have z2 := cell_of (j := 2) HZ rfl
    have u2 := unfr HZ 2
    have z3 := cell_of (j := 3) HZ rfl
    have u3 := unfr HZ 3
    go_wp2_with fail
    refine bodyPost_ret (results_ct rfl _ _ (w.heap.size + 2) 25 #[.string ⟨#[]⟩, .int .u8 0, .string ⟨#[]⟩, .slice none 0 0] (0, 0) _ rfl HZF.out Tryd.underlying25 rfl (by kernel_rfl)) rfl ?_
    rw [← HG1.out]
    exact ⟨none, 0, rfl, Nat.le_refl _, Kd.C_nil FileK _, HB9.out⟩

set_option maxHeartbeats 8000000 in
set_option maxRecDepth 100000 in
theorem tdrop0_calls (t : File) (A : Option Addr) (c : Nat) (Ap : Option Addr) (cp : Nat) (w : World) (ht : FileK.C w A t.files.length t.files) (hc : t.files.length ≤ c) (hbt : t.bulk ≤ 1000000000) :
    Calls Tryd.prog 24 #[fileV t A c, .slice Ap 0 cp] w fun e w' => ∃ A' c', e = .returned (.tuple #[.agg #[.string (nilR t).1.name, .int .u8 (nilR t).1.kind, .string (nilR t).1.data, .slice A' (nilR t).1.files.length c'], .int .i64 (nilR t).2]) ∧ (nilR t).1.files.length ≤ c' ∧ FileK.C w' A' (nilR t).1.files.length (nilR t).1.files ∧ Below w.heap.size w w' := by
  have h2 := two_boxes w #[.string t.name, .int .u8 t.kind, .string t.data, .slice A t.files.length c] #[.string ⟨#[]⟩, .int .u8 0, .string ⟨#[]⟩, .slice none 0 0] 25 25
  have hb0 := ((Below.refl w.heap.size w).alloc (Nat.le_refl _) (.cells #[.string t.name, .int .u8 t.kind, .string t.data, .slice A t.files.length c] 25)).alloc (by simp) (.cells #[.string ⟨#[]⟩, .int .u8 0, .string ⟨#[]⟩, .slice none 0 0] 25)
  have I := Lib.hid (Hd.base hb0 (by first | exact Nat.le_refl _ | exact Below.size hb0))
  replace I := Lib.hid (Hd.and I.out (Hd.box (h2.1)))
  replace I := Lib.hid (Hd.and I.out (Hd.box (h2.2)))
  replace I := Lib.hid (Hd.and I.out (Hd.reads (Kd.C_below ht hb0)))
  clear h2
  obtain ⟨gr, hgr⟩ : ∃ g, nilR t = g := ⟨_, rfl⟩
  rw [hgr]
  unfold nilR at hgr
  have HG := Lib.hid hgr
  clear hgr ht
  go_enter Tryd.func24, Tryd.ntmps24
  unfold fileV
  have lt0 := cell_of (j := 0) I.out.now.2.2.1 rfl
  have lt1 := cell_of (j := 1) I.out.now.2.2.1 rfl
  have lt2 := cell_of (j := 2) I.out.now.2.2.1 rfl
  have lt3 := cell_of (j := 3) I.out.now.2.2.1 rfl
  go_wp2_with fail
  clear lt0 lt1 lt2 lt3
  generalize ((w.alloc (.cells #[.string t.name, .int .u8 t.kind, .string t.data, .slice A t.files.length c] 25)).alloc (.cells #[.string ⟨#[]⟩, .int .u8 0, .string ⟨#[]⟩, .slice none 0 0] 25)) = W0 at *
  refine ((show Calls Tryd.prog 28 #[.agg #[.string t.name, .int .u8 t.kind, .string t.data, .slice A t.files.length c]] _ _ from right_calls t A c _ (by omega) I.out.now.1 hc)).mono ?_
  rintro e w1 ⟨rfl, hq1⟩
  replace I := Lib.hid (Hd.mv I.out hq1)
  cases hrt : rightT t
  · skip
    have HG1 := HG.out
    rw [hrt, if_neg (by decide)] at HG1
    replace HG1 := Lib.hid HG1
    have HZ := I.out.now.2.1
    have HZF := Lib.hid (store4_box HZ (.string ⟨#[]⟩) (.int .u8 0) (.string ⟨#[]⟩) (.slice none 0 0))
    have HB9 := Lib.hid (store4_below I.out.now.2.2.2 (g := w.heap.size + 1) (by omega) (.string ⟨#[]⟩) (.int .u8 0) (.string ⟨#[]⟩) (.slice none 0 0))
    have z0 := cell_of (j := 0) HZ rfl
    have u0 := unfr HZ 0
    have z1 := cell_of (j := 1) HZ rfl
    have u1 := unfr HZ 1
    have z2 := cell_of (j := 2) HZ rfl
    have u2 := unfr HZ 2
    have z3 := cell_of (j := 3) HZ rfl
    have u3 := unfr HZ 3
    go_wp2_with fail
    refine bodyPost_ret (results_ct rfl _ _ (w.heap.size + 1) 25 #[.string ⟨#[]⟩, .int .u8 0, .string ⟨#[]⟩, .slice none 0 0] (0, 0) _ rfl HZF.out Tryd.underlying25 rfl (by kernel_rfl)) rfl ?_
    rw [← HG1.out]
    exact ⟨none, 0, rfl, Nat.le_refl _, Kd.C_nil FileK _, HB9.out⟩
  · skip
    have HG1 := HG.out
    rw [if_pos hrt] at HG1
    replace HG1 := Lib.hid HG1
    have HZ := I.out.now.2.1
    have HZF := Lib.hid (store4_box HZ (.string ⟨#[]⟩) (.int .u8 0) (.string ⟨#[]⟩) (.slice none 0 0))
    have HB9 := Lib.hid (store4_below I.out.now.2.2.2 (g := w.heap.size + 1) (by omega) (.string ⟨#[]⟩) (.int .u8 0) (.string ⟨#[]⟩) (.slice none 0 0))
    have z0 := cell_of (j := 0) HZ rfl
    have u0 := unfr HZ 0
    have z1 := cell_of (j := 1) HZ rfl
    have u1 := unfr HZ 1
    have z2 := cell_of (j := 2) HZ rfl
    have u2 := unfr HZ 2
    have z3 := cell_of (j := 3) HZ rfl
    have u3 := unfr HZ 3
    go_wp2_with fail
    refine bodyPost_ret (results_ct rfl _ _ (w.heap.size + 1) 25 #[.string ⟨#[]⟩, .int .u8 0, .string ⟨#[]⟩, .slice none 0 0] (0, 0) _ rfl HZF.out Tryd.underlying25 rfl (by kernel_rfl)) rfl ?_
    rw [← HG1.out]
    exact ⟨none, 0, rfl, Nat.le_refl _, Kd.C_nil FileK _, HB9.out⟩

set_option maxHeartbeats 8000000 in
set_option maxRecDepth 100000 in
theorem rput0_calls (t f : File) (A Af : Option Addr) (c cf : Nat) (Ap : Option Addr) (cp : Nat) (w : World) (ht : FileK.C w A t.files.length t.files) (hc : t.files.length ≤ c) (hbt : t.bulk ≤ 1000000000) :
    Calls Tryd.prog 23 #[fileV t A c, .slice Ap 0 cp, fileV f Af cf] w fun e w' => ∃ A' c', e = .returned (.tuple #[.agg #[.string (nilR t).1.name, .int .u8 (nilR t).1.kind, .string (nilR t).1.data, .slice A' (nilR t).1.files.length c'], .int .i64 (nilR t).2]) ∧ (nilR t).1.files.length ≤ c' ∧ FileK.C w' A' (nilR t).1.files.length (nilR t).1.files ∧ Below w.heap.size w w' := by
  have h2 := three_all w #[.string t.name, .int .u8 t.kind, .string t.data, .slice A t.files.length c] #[.string f.name, .int .u8 f.kind, .string f.data, .slice Af f.files.length cf] #[.string ⟨#[]⟩, .int .u8 0, .string ⟨#[]⟩, .slice none 0 0] 25 25 25
  have hb0 := (((Below.refl w.heap.size w).alloc (Nat.le_refl _) (.cells #[.string t.name, .int .u8 t.kind, .string t.data, .slice A t.files.length c] 25)).alloc (by simp) (.cells #[.string f.name, .int .u8 f.kind, .string f.data, .slice Af f.files.length cf] 25)).alloc (by simp; omega) (.cells #[.string ⟨#[]⟩, .int .u8 0, .string ⟨#[]⟩, .slice none 0 0] 25)
  have I := Lib.hid (Hd.base hb0 (by first | exact Nat.le_refl _ | exact Below.size hb0))
  replace I := Lib.hid (Hd.and I.out (Hd.box (h2.1)))
  replace I := Lib.hid (Hd.and I.out (Hd.box (h2.2.1)))
  replace I := Lib.hid (Hd.and I.out (Hd.box (h2.2.2)))
  replace I := Lib.hid (Hd.and I.out (Hd.reads (Kd.C_below ht hb0)))
  clear h2
  obtain ⟨gr, hgr⟩ : ∃ g, nilR t = g := ⟨_, rfl⟩
  rw [hgr]
  unfold nilR at hgr
  have HG := Lib.hid hgr
  clear hgr ht
  go_enter Tryd.func23, Tryd.ntmps23
  unfold fileV
  have lt0 := cell_of (j := 0) I.out.now.2.2.2.1 rfl
  have lt1 := cell_of (j := 1) I.out.now.2.2.2.1 rfl
  have lt2 := cell_of (j := 2) I.out.now.2.2.2.1 rfl
  have lt3 := cell_of (j := 3) I.out.now.2.2.2.1 rfl
  go_wp2_with fail
  clear lt0 lt1 lt2 lt3
  generalize (((w.alloc (.cells #[.string t.name, .int .u8 t.kind, .string t.data, .slice A t.files.length c] 25)).alloc (.cells #[.string f.name, .int .u8 f.kind, .string f.data, .slice Af f.files.length cf] 25)).alloc (.cells #[.string ⟨#[]⟩, .int .u8 0, .string ⟨#[]⟩, .slice none 0 0] 25)) = W0 at *
  refine ((show Calls Tryd.prog 45 #[.agg #[.string t.name, .int .u8 t.kind, .string t.data, .slice A t.files.length c]] _ _ from rright_calls t A c _ (by omega) I.out.now.1 hc)).mono ?_
  rintro e w1 ⟨rfl, hq1⟩
  replace I := Lib.hid (Hd.mv I.out hq1)
  cases hrt : rightT t
  · skip
    have HG1 := HG.out
    rw [hrt, if_neg (by decide)] at HG1
    replace HG1 := Lib.hid HG1
    have HZ := I.out.now.2.1
    have HZF := Lib.hid (store4_box HZ (.string ⟨#[]⟩) (.int .u8 0) (.string ⟨#[]⟩) (.slice none 0 0))
    have HB9 := Lib.hid (store4_below I.out.now.2.2.2.2 (g := w.heap.size + 2) (by omega) (.string ⟨#[]⟩) (.int .u8 0) (.string ⟨#[]⟩) (.slice none 0 0))
    have z0 := cell_of (j := 0) HZ rfl
    have u0 := unfr HZ 0
    have z1 := cell_of (j := 1) HZ rfl
    have u1 := unfr HZ 1
    have z2 := cell_of (j := 2) HZ rfl
    have u2 := unfr HZ 2
    have z3 := cell_of (j := 3) HZ rfl
    have u3 := unfr HZ 3
    go_wp2_with fail
    refine bodyPost_ret (results_ct rfl _ _ (w.heap.size + 2) 25 #[.string ⟨#[]⟩, .int .u8 0, .string ⟨#[]⟩, .slice none 0 0] (0, 0) _ rfl HZF.out Tryd.underlying25 rfl (by kernel_rfl)) rfl ?_
    rw [← HG1.out]
    exact ⟨none, 0, rfl, Nat.le_refl _, Kd.C_nil FileK _, HB9.out⟩
  · skip
    have HG1 := HG.out
    rw [if_pos hrt] at HG1
    replace HG1 := Lib.hid HG1
    have HZ := I.out.now.2.1
    have HZF := Lib.hid (store4_box HZ (.string ⟨#[]⟩) (.int .u8 0) (.string ⟨#[]⟩) (.slice none 0 0))
    have HB9 := Lib.hid (store4_below I.out.now.2.2.2.2 (g := w.heap.size + 2) (by omega) (.string ⟨#[]⟩) (.int .u8 0) (.string ⟨#[]⟩) (.slice none 0 0))
    have z0 := cell_of (j := 0) HZ rfl
    have u0 := unfr HZ 0
    have z1 := cell_of (j := 1) HZ rfl
    have u1 := unfr HZ 1
    have z2 := cell_of (j := 2) HZ rfl
    have u2 := unfr HZ 2
    have z3 := cell_of (j := 3) HZ rfl
    have u3 := unfr HZ 3
    go_wp2_with fail
    refine bodyPost_ret (results_ct rfl _ _ (w.heap.size + 2) 25 #[.string ⟨#[]⟩, .int .u8 0, .string ⟨#[]⟩, .slice none 0 0] (0, 0) _ rfl HZF.out Tryd.underlying25 rfl (by kernel_rfl)) rfl ?_
    rw [← HG1.out]
    exact ⟨none, 0, rfl, Nat.le_refl _, Kd.C_nil FileK _, HB9.out⟩

def rputR (t : File) (q : List ByteArray) (n : ByteArray) (f : File) : File × Int := if rightT t = true then (if (findR t q).2 = 0 then (if (findR t q).1.kind = 1 then (if rightT (withR false (nameF f n) (q ++ [n]) t) = true then (withR false (nameF f n) (q ++ [n]) t, 0) else (zeroF, 30)) else (zeroF, 32)) else (zeroF, (findR t q).2)) else (zeroF, 30)
set_option maxHeartbeats 8000000 in
set_option maxRecDepth 100000 in
theorem rput_calls (t f : File) (A Af : Option Addr) (c cf : Nat) (Ap : Option Addr) (cp : Nat) (q : List ByteArray) (n : ByteArray) (w : World) (ht : FileK.C w A t.files.length t.files) (hc : t.files.length ≤ c) (hbt : t.bulk ≤ 1000000000) (hf : FileK.C w Af f.files.length f.files) (hcf : f.files.length ≤ cf) (hbf : f.bulk ≤ 1000000000) (hn : n.size ≤ 1000000000) (hp : Kd.C Kd.string w Ap (q ++ [n]).length (q ++ [n])) (hcp : q.length + 1 ≤ cp) (hpl : q.length ≤ 1000000000) :
    Calls Tryd.prog 23 #[fileV t A c, .slice Ap (q.length + 1) cp, fileV f Af cf] w fun e w' => ∃ A' c', e = .returned (.tuple #[.agg #[.string (rputR t q n f).1.name, .int .u8 (rputR t q n f).1.kind, .string (rputR t q n f).1.data, .slice A' (rputR t q n f).1.files.length c'], .int .i64 (rputR t q n f).2]) ∧ (rputR t q n f).1.files.length ≤ c' ∧ FileK.C w' A' (rputR t q n f).1.files.length (rputR t q n f).1.files ∧ Below w.heap.size w w' := by
  have h2 := three_all w #[.string t.name, .int .u8 t.kind, .string t.data, .slice A t.files.length c] #[.string f.name, .int .u8 f.kind, .string f.data, .slice Af f.files.length cf] #[.string ⟨#[]⟩, .int .u8 0, .string ⟨#[]⟩, .slice none 0 0] 25 25 25
  have hb0 := (((Below.refl w.heap.size w).alloc (Nat.le_refl _) (.cells #[.string t.name, .int .u8 t.kind, .string t.data, .slice A t.files.length c] 25)).alloc (by simp) (.cells #[.string f.name, .int .u8 f.kind, .string f.data, .slice Af f.files.length cf] 25)).alloc (by simp; omega) (.cells #[.string ⟨#[]⟩, .int .u8 0, .string ⟨#[]⟩, .slice none 0 0] 25)
  have I := Lib.hid (Hd.base hb0 (by first | exact Nat.le_refl _ | exact Below.size hb0))
  replace I := Lib.hid (Hd.and I.out (Hd.box (h2.1)))
  replace I := Lib.hid (Hd.and I.out (Hd.box (h2.2.1)))
  replace I := Lib.hid (Hd.and I.out (Hd.box (h2.2.2)))
  replace I := Lib.hid (Hd.and I.out (Hd.reads (Kd.C_below ht hb0)))
  clear h2
  replace I := Lib.hid (Hd.and I.out (Hd.reads (Kd.C_below hp hb0)))
  replace I := Lib.hid (Hd.and I.out (Hd.reads (Kd.C_below hf hb0)))
  have HQ := Lib.hid (show Kd.C Kd.string w Ap q.length q from by
    have h1 := Kd.C_take hp (m := q.length) (by simp)
    rwa [List.take_left' rfl] at h1)
  have HP := Lib.hid hp
  have hqn : (q ++ [n]).length = q.length + 1 := by simp
  have hk1 : ((q.length : Int) + 1 - 1) = (q.length : Int) := by omega
  have wq : IntKind.i64.wrap (q.length : Int) = (q.length : Int) := by rw [IntKind.wrap_i64]; omega
  have gq : (q.length : Int) < (q.length : Int) + 1 := by omega
  have gq0 : (0 : Int) ≤ (q.length : Int) := by omega
  have k0 : ((q.length : Int) + 1 == 0) = false := by rw [beq_eq_false_iff_ne]; omega
  obtain ⟨pad, rfl, hx⟩ := Kd.at_string HP.out (q.length : Int) (by omega) (by simp; omega)
  rw [Int.toNat_natCast] at hx
  have he : rdOf ByteArray.empty (q ++ [n]) (q.length : Int) = n := by simp [rdOf]
  rw [he] at hx
  have HX := Lib.hid (fun W (h : Below w.heap.size w W) => (h.cell (World.block_lt_of_cell? w _ hx)).trans hx)
  clear he hx
  obtain ⟨gr, hgr⟩ : ∃ g, rputR t q n f = g := ⟨_, rfl⟩
  rw [hgr]
  unfold rputR at hgr
  have HG := Lib.hid hgr
  clear hgr ht hp hf
  go_enter Tryd.func23, Tryd.ntmps23
  unfold fileV
  have lt0 := cell_of (j := 0) I.out.now.2.2.2.2.2.1 rfl
  have lt1 := cell_of (j := 1) I.out.now.2.2.2.2.2.1 rfl
  have lt2 := cell_of (j := 2) I.out.now.2.2.2.2.2.1 rfl
  have lt3 := cell_of (j := 3) I.out.now.2.2.2.2.2.1 rfl
  go_wp2_with fail
  clear lt0 lt1 lt2 lt3
  generalize (((w.alloc (.cells #[.string t.name, .int .u8 t.kind, .string t.data, .slice A t.files.length c] 25)).alloc (.cells #[.string f.name, .int .u8 f.kind, .string f.data, .slice Af f.files.length cf] 25)).alloc (.cells #[.string ⟨#[]⟩, .int .u8 0, .string ⟨#[]⟩, .slice none 0 0] 25)) = W0 at *
  refine ((show Calls Tryd.prog 45 #[.agg #[.string t.name, .int .u8 t.kind, .string t.data, .slice A t.files.length c]] _ _ from rright_calls t A c _ (by omega) I.out.now.2.2.1 hc)).mono ?_
  rintro e w1 ⟨rfl, hq1⟩
  replace I := Lib.hid (Hd.mv I.out hq1)
  cases hrt : rightT t
  · skip
    have HG1 := HG.out
    rw [hrt, if_neg (by decide)] at HG1
    replace HG1 := Lib.hid HG1
    have HZ := I.out.now.2.2.2.1
    have HZF := Lib.hid (store4_box HZ (.string ⟨#[]⟩) (.int .u8 0) (.string ⟨#[]⟩) (.slice none 0 0))
    have HB9 := Lib.hid (store4_below I.out.now.2.2.2.2.2.2 (g := w.heap.size + 2) (by omega) (.string ⟨#[]⟩) (.int .u8 0) (.string ⟨#[]⟩) (.slice none 0 0))
    have z0 := cell_of (j := 0) HZ rfl
    have u0 := unfr HZ 0
    have z1 := cell_of (j := 1) HZ rfl
    have u1 := unfr HZ 1
    have z2 := cell_of (j := 2) HZ rfl
    have u2 := unfr HZ 2
    have z3 := cell_of (j := 3) HZ rfl
    have u3 := unfr HZ 3
    go_wp2_with fail
    refine bodyPost_ret (results_ct rfl _ _ (w.heap.size + 2) 25 #[.string ⟨#[]⟩, .int .u8 0, .string ⟨#[]⟩, .slice none 0 0] (0, 0) _ rfl HZF.out Tryd.underlying25 rfl (by kernel_rfl)) rfl ?_
    rw [← HG1.out]
    exact ⟨none, 0, rfl, Nat.le_refl _, Kd.C_nil FileK _, HB9.out⟩
  · skip
    have HG1 := HG.out
    rw [if_pos hrt] at HG1
    replace HG1 := Lib.hid HG1
    have HFI := Lib.hid (fun W (h : Below w1.heap.size w1 W) => (show Calls Tryd.prog 49 #[.agg #[.string t.name, .int .u8 t.kind, .string t.data, .slice A t.files.length c], .slice (some pad) q.length cp] W _ from rfind_calls t A c (some pad) cp q W (Kd.C_below I.out.now.2.2.1 h) hc (by omega) (Kd.C_below HQ.out ((I.out.now.2.2.2.2.2.2).trans (h.mono (Below.size I.out.now.2.2.2.2.2.2)))) (by omega) (by omega)))
    have lt0 := cell_of (j := 0) I.out.now.2.2.2.2.2.1 rfl
    have lt1 := cell_of (j := 1) I.out.now.2.2.2.2.2.1 rfl
    have lt2 := cell_of (j := 2) I.out.now.2.2.2.2.2.1 rfl
    have lt3 := cell_of (j := 3) I.out.now.2.2.2.2.2.1 rfl
    go_wp2_with fail
    have HUB : Hid ((findR t q).2 = 0 → (withR false (nameF f n) (q ++ [n]) t).bulk ≤ 1099511627776) := Lib.hid fun hz => by
      have hg := go_findR q t (right_sort hrt)
      rw [if_pos hz] at hg
      have hw := with_put q t (findR t q).1 (nameF f n) (right_sort hrt) hg
      rw [show (nameF f n).name = n from rfl] at hw
      rw [hw]
      have h1 := bulk_putX (x := nameF f n) hg
      have h2 := bulk_name f n
      omega
    obtain ⟨⟨d, k⟩, hd⟩ : ∃ g, findR t q = g := ⟨_, rfl⟩
    rw [hd] at HFI
    simp only at HFI
    rw [hd] at HG1 HUB
    simp only at HG1 HUB
    clear hd
    clear lt0 lt1 lt2 lt3
    refine start_ (n := 13) (S := fun w' => w'.heap[w.heap.size]? = some (.cells #[.string t.name, .int .u8 t.kind, .string t.data, .slice A t.files.length c] 25 (0, 0))) (ds := [11]) (bp 13 0) (by kernel_rfl) rfl rfl (I.out _ (bdrew (Below.refl w1.heap.size w1))).2.2.2.2.2.1 (fun hHeld => ?_)
    refine pure_ (i := 1) (N := some 22) (v := ?_) (a' := ?_) (bp 13 2) rfl rfl (by kernel_rfl) (fun _ _ _ h => h) (Or.inl ⟨by rfl, ?_⟩) ?_ ?_
    rotate_left
    · intro w'
      go_simp
      with_reducible rfl
    rotate_left
    · simp only [Act.put, List.setIfInBounds_toArray, List.set_cons_zero, List.set_cons_succ, i64_w, i32_w]
      rfl
    refine pure_ (i := 2) (N := some 23) (v := ?_) (a' := ?_) (bp 13 6) rfl rfl (by kernel_rfl) (fun _ _ _ h => h) (Or.inl ⟨by rfl, ?_⟩) ?_ ?_
    rotate_left
    · intro w'
      go_simp
      with_reducible rfl
    rotate_left
    · simp only [Act.put, List.setIfInBounds_toArray, List.set_cons_zero, List.set_cons_succ, i64_w, i32_w]
      rfl
    refine pure_ (i := 3) (N := some 24) (v := ?_) (a' := ?_) (bp 13 14) rfl rfl (by kernel_rfl) (fun _ _ _ h => h) (Or.inl ⟨by rfl, ?_⟩) ?_ ?_
    rotate_left
    · intro w'
      go_simp
      with_reducible rfl
    rotate_left
    · simp only [Act.put, List.setIfInBounds_toArray, List.set_cons_zero, List.set_cons_succ, i64_w, i32_w]
      rfl
    refine pure_ (i := 4) (N := some 25) (v := ?_) (a' := ?_) (bp 13 30) rfl rfl (by kernel_rfl) (fun _ _ _ h => h) (Or.inl ⟨by rfl, ?_⟩) ?_ ?_
    rotate_left
    · intro w'
      go_simp
      with_reducible rfl
    rotate_left
    · simp only [Act.put, List.setIfInBounds_toArray, List.set_cons_zero, List.set_cons_succ, i64_w, i32_w]
      rfl
    refine pure_ (i := 5) (N := some 26) (v := ?_) (a' := ?_) (bp 13 62) rfl rfl (by kernel_rfl) (fun _ _ _ h => h) (Or.inl ⟨by rfl, ?_⟩) ?_ ?_
    rotate_left
    · intro w'
      go_simp
      rw [if_pos (by omega)]
    rotate_left
    · simp only [Act.put, List.setIfInBounds_toArray, List.set_cons_zero, List.set_cons_succ, i64_w, i32_w]
      rfl
    refine take_ (i := 0) (N := some 21) (v := ?_) (a' := ?_) (bp 13 63) rfl rfl (by kernel_rfl) (fun _ _ _ h => h) (Or.inl ⟨by rfl, ?_⟩) hHeld ?_ ?_
    rotate_left
    · rintro w' hs
      have q0 := cell_of (j := 0) hs rfl
      have q1 := cell_of (j := 1) hs rfl
      have q2 := cell_of (j := 2) hs rfl
      have q3 := cell_of (j := 3) hs rfl
      go_simp
      with_reducible rfl
    rotate_left
    · simp only [Act.put, List.setIfInBounds_toArray, List.set_cons_zero, List.set_cons_succ, i64_w, i32_w]
      rfl
    refine join_ (σ := (Option Addr × Nat) × Nat) 2 (bp 13 2047) (fun s => match s with | ((A1, c1), gd) => [(27, .tuple #[.agg #[.string d.name, .int .u8 d.kind, .string d.data, .slice A1 d.files.length c1], .int .i64 k]), (20, .tuple #[.agg #[.string d.name, .int .u8 d.kind, .string d.data, .slice A1 d.files.length c1], .int .i64 k]), (28, .agg #[.string d.name, .int .u8 d.kind, .string d.data, .slice A1 d.files.length c1]), (29, .int .i64 k), (8, .pointer (some ⟨gd, 0, none⟩))]) (fun s W => match s with | ((A1, c1), gd) => Below w1.heap.size w1 W ∧ w1.heap.size ≤ gd ∧ W.heap[gd]? = some (.cells #[.string ⟨#[]⟩, .int .u8 0, .string ⟨#[]⟩, .slice none 0 0] 25 (0, 0))) ?_ ?_
    rotate_left
    · intro hc
      refine two_ (i := 6) (j := 10) (Ni := some 27) (Nj := some 8) (bp 13 127) (bp 13 1087) rfl rfl rfl rfl (by kernel_rfl) (by decide) (by decide) (fun K hK => ?_) (fun K hK => ?_)
      · refine goes_ Tryd.func49 (by kernel_rfl) rfl #[.agg #[.string t.name, .int .u8 t.kind, .string t.data, .slice A t.files.length c], .slice (some pad) q.length cp] (by rfl) rfl rfl (by simp only [List.map_toArray, List.map_cons, List.map_nil]; rfl) ?_
        refine (HFI.out _ (bdrew (Below.refl w1.heap.size w1))).mono ?_
        rintro e w5 ⟨A1, c1, rfl, _, _, hq5⟩
        refine ⟨_, rfl, ?_⟩
        refine hK.out _ _ ((I.out _ ((bdrew (Below.refl w1.heap.size w1)).trans hq5)).2.2.2.2.2.1) (fun _ => ?_)
        refine norm_ (a' := ?_) ?_ ?_
        rotate_left
        · show Act.put _ (some 27) _ = _
          simp only [Act.put, List.setIfInBounds_toArray, List.set_cons_zero, List.set_cons_succ, i64_w, i32_w]
          rfl
        refine pure_ (i := 7) (N := some 20) (v := ?_) (a' := ?_) (bp 13 255) rfl rfl (by kernel_rfl) (fun _ _ _ h => h) (Or.inl ⟨by rfl, ?_⟩) ?_ ?_
        rotate_left
        · intro w'
          go_simp
          with_reducible rfl
        rotate_left
        · simp only [Act.put, List.setIfInBounds_toArray, List.set_cons_zero, List.set_cons_succ, i64_w, i32_w]
          rfl
        refine pure_ (i := 8) (N := some 28) (v := ?_) (a' := ?_) (bp 13 511) rfl rfl (by kernel_rfl) (fun _ _ _ h => h) (Or.inl ⟨by rfl, ?_⟩) ?_ ?_
        rotate_left
        · intro w'
          go_simp
          with_reducible rfl
        rotate_left
        · simp only [Act.put, List.setIfInBounds_toArray, List.set_cons_zero, List.set_cons_succ, i64_w, i32_w]
          rfl
        refine pure_ (i := 9) (N := some 29) (v := ?_) (a' := ?_) (bp 13 1023) rfl rfl (by kernel_rfl) (fun _ _ _ h => h) (Or.inl ⟨by rfl, ?_⟩) ?_ ?_
        rotate_left
        · intro w'
          go_simp
          with_reducible rfl
        rotate_left
        · simp only [Act.put, List.setIfInBounds_toArray, List.set_cons_zero, List.set_cons_succ, i64_w, i32_w]
          rfl
        refine one_ (i := 10) (N := some 8) (bp 13 2047) rfl rfl (by kernel_rfl) (by decide) (fun K hK => ?_)
        refine value_ (w1 := ?_) (v := ?_) (by rfl) rfl ?_ ?_
        rotate_left 2
        · go_simp
          constructor
          · rfl
          · rfl
        refine hK.out _ _ ((I.out _ (below_alloc ((bdrew (Below.refl w1.heap.size w1)).trans hq5) _)).2.2.2.2.2.1) (fun _ => ?_)
        refine norm_ (a' := _) ?_ (hc ((A1, c1), w5.heap.size) _ (⟨below_alloc ((bdrew (Below.refl w1.heap.size w1)).trans hq5) _, ((bdrew (Below.refl w1.heap.size w1)).trans hq5).size, blk_new w5 _⟩))
        simp only [putAll, Act.put, List.setIfInBounds_toArray, List.set_cons_zero, List.set_cons_succ]
      · refine value_ (w1 := ?_) (v := ?_) (by rfl) rfl ?_ ?_
        rotate_left 2
        · go_simp
          constructor
          · rfl
          · rfl
        refine hK.out _ _ ((I.out _ (below_alloc (bdrew (Below.refl w1.heap.size w1)) (.cells #[.string ⟨#[]⟩, .int .u8 0, .string ⟨#[]⟩, .slice none 0 0] 25))).2.2.2.2.2.1) (fun _ => ?_)
        refine norm_ (a' := ?_) ?_ ?_
        rotate_left
        · show Act.put _ (some 8) _ = _
          simp only [Act.put, List.setIfInBounds_toArray, List.set_cons_zero, List.set_cons_succ, i64_w, i32_w]
          rfl
        refine one_ (i := 6) (N := some 27) (bp 13 1151) rfl rfl (by kernel_rfl) (by decide) (fun K hK => ?_)
        refine goes_ Tryd.func49 (by kernel_rfl) rfl #[.agg #[.string t.name, .int .u8 t.kind, .string t.data, .slice A t.files.length c], .slice (some pad) q.length cp] (by rfl) rfl rfl (by simp only [List.map_toArray, List.map_cons, List.map_nil]; rfl) ?_
        refine (HFI.out _ (below_alloc (bdrew (Below.refl w1.heap.size w1)) (.cells #[.string ⟨#[]⟩, .int .u8 0, .string ⟨#[]⟩, .slice none 0 0] 25))).mono ?_
        rintro e w5 ⟨A1, c1, rfl, _, _, hq5⟩
        refine ⟨_, rfl, ?_⟩
        refine hK.out _ _ ((I.out _ ((below_alloc (bdrew (Below.refl w1.heap.size w1)) (.cells #[.string ⟨#[]⟩, .int .u8 0, .string ⟨#[]⟩, .slice none 0 0] 25)).trans (hq5.mono (below_alloc (Below.refl w1.drew.heap.size w1.drew) (.cells #[.string ⟨#[]⟩, .int .u8 0, .string ⟨#[]⟩, .slice none 0 0] 25)).size))).2.2.2.2.2.1) (fun _ => ?_)
        refine norm_ (a' := ?_) ?_ ?_
        rotate_left
        · show Act.put _ (some 27) _ = _
          simp only [Act.put, List.setIfInBounds_toArray, List.set_cons_zero, List.set_cons_succ, i64_w, i32_w]
          rfl
        refine pure_ (i := 7) (N := some 20) (v := ?_) (a' := ?_) (bp 13 1279) rfl rfl (by kernel_rfl) (fun _ _ _ h => h) (Or.inl ⟨by rfl, ?_⟩) ?_ ?_
        rotate_left
        · intro w'
          go_simp
          with_reducible rfl
        rotate_left
        · simp only [Act.put, List.setIfInBounds_toArray, List.set_cons_zero, List.set_cons_succ, i64_w, i32_w]
          rfl
        refine pure_ (i := 8) (N := some 28) (v := ?_) (a' := ?_) (bp 13 1535) rfl rfl (by kernel_rfl) (fun _ _ _ h => h) (Or.inl ⟨by rfl, ?_⟩) ?_ ?_
        rotate_left
        · intro w'
          go_simp
          with_reducible rfl
        rotate_left
        · simp only [Act.put, List.setIfInBounds_toArray, List.set_cons_zero, List.set_cons_succ, i64_w, i32_w]
          rfl
        refine pure_ (i := 9) (N := some 29) (v := ?_) (a' := ?_) (bp 13 2047) rfl rfl (by kernel_rfl) (fun _ _ _ h => h) (Or.inl ⟨by rfl, ?_⟩) ?_ ?_
        rotate_left
        · intro w'
          go_simp
          with_reducible rfl
        rotate_left
        · simp only [Act.put, List.setIfInBounds_toArray, List.set_cons_zero, List.set_cons_succ, i64_w, i32_w]
          rfl
        refine norm_ (a' := _) ?_ (hc ((A1, c1), w1.heap.size) _ (⟨((below_alloc (bdrew (Below.refl w1.heap.size w1)) (.cells #[.string ⟨#[]⟩, .int .u8 0, .string ⟨#[]⟩, .slice none 0 0] 25)).trans (hq5.mono (below_alloc (Below.refl w1.drew.heap.size w1.drew) (.cells #[.string ⟨#[]⟩, .int .u8 0, .string ⟨#[]⟩, .slice none 0 0] 25)).size)), Nat.le_refl _, (hq5.block _ (blk_lt (blk_new w1.drew (.cells #[.string ⟨#[]⟩, .int .u8 0, .string ⟨#[]⟩, .slice none 0 0] 25)))).trans (blk_new w1.drew (.cells #[.string ⟨#[]⟩, .int .u8 0, .string ⟨#[]⟩, .slice none 0 0] 25))⟩))
        simp only [putAll, Act.put, List.setIfInBounds_toArray, List.set_cons_zero, List.set_cons_succ]
    · rintro ⟨⟨A1, c1⟩, gd⟩ W hF
      refine norm_ (a' := ?_) ?_ ?_
      rotate_left
      · simp only [putAll, Act.put, List.setIfInBounds_toArray, List.set_cons_zero, List.set_cons_succ]
        rfl
      obtain ⟨hbW, hgd, hzz⟩ := hF
      have hHeld : W.heap[w.heap.size]? = some (.cells #[.string t.name, .int .u8 t.kind, .string t.data, .slice A t.files.length c] 25 (0, 0)) := (I.out _ hbW).2.2.2.2.2.1
      refine last_ (i := 11) (N := none) (bp 13 4095) rfl rfl (by kernel_rfl) (by decide) (fun K hK => ?_)
      have zc0 := cell_of (j := 0) hzz rfl
      have zu0 := unfr hzz 0
      have zc1 := cell_of (j := 1) hzz rfl
      have zu1 := unfr hzz 1
      have zc2 := cell_of (j := 2) hzz rfl
      have zu2 := unfr hzz 2
      have zc3 := cell_of (j := 3) hzz rfl
      have zu3 := unfr hzz 3
      refine skip_ (w1 := ?_) (by rfl) rfl ?_ ?_
      rotate_left
      · go_simp
        rfl
      refine hK.out _ _ ?_
      refine pure_ (i := 12) (N := some 9) (v := ?_) (a' := ?_) (bp 13 8191) rfl rfl (by kernel_rfl) (fun _ _ _ h => h) (Or.inl ⟨by rfl, ?_⟩) ?_ ?_
      rotate_left
      · intro w'
        go_simp
        with_reducible rfl
      rotate_left
      · simp only [Act.put, List.setIfInBounds_toArray, List.set_cons_zero, List.set_cons_succ, i64_w, i32_w]
        rfl
      refine done_ (by kernel_rfl) ?_
      have hq6 := store4_below hbW (g := gd) hgd (.string d.name) (.int .u8 d.kind) (.string d.data) (.slice A1 d.files.length c1)
      have hd6 := store4_box hzz (.string d.name) (.int .u8 d.kind) (.string d.data) (.slice A1 d.files.length c1)
      replace I := Lib.hid (Hd.mv I.out hq6)
      replace I := Lib.hid (Hd.and I.out (Hd.box (hd6)))
      clear zc0 zc1 zc2 zc3 zu0 zu1 zu2 zu3 hzz hHeld hK hd6
      generalize ((((W.setCell ⟨gd, 0, none⟩ (.string d.name)).setCell ⟨gd, 1, none⟩ (.int .u8 d.kind)).setCell ⟨gd, 2, none⟩ (.string d.data)).setCell ⟨gd, 3, none⟩ (.slice A1 d.files.length c1)) = W6 at *
      by_cases hk : k = 0
      rotate_left
      · skip
        have HG2 := HG1.out
        rw [if_neg hk] at HG2
        replace HG2 := Lib.hid HG2
        have k1 : (k != 0) = true := by rw [bne_iff_ne]; exact hk
        have HZ := I.out.now.2.2.2.2.1
        have HZF := Lib.hid (store4_box HZ (.string ⟨#[]⟩) (.int .u8 0) (.string ⟨#[]⟩) (.slice none 0 0))
        have HB9 := Lib.hid (store4_below I.out.now.2.2.2.2.2.2.2 (g := w.heap.size + 2) (by omega) (.string ⟨#[]⟩) (.int .u8 0) (.string ⟨#[]⟩) (.slice none 0 0))
        have z0 := cell_of (j := 0) HZ rfl
        have u0 := unfr HZ 0
        have z1 := cell_of (j := 1) HZ rfl
        have u1 := unfr HZ 1
        have z2 := cell_of (j := 2) HZ rfl
        have u2 := unfr HZ 2
        have z3 := cell_of (j := 3) HZ rfl
        have u3 := unfr HZ 3
        go_wp2_with fail
        refine bodyPost_ret (results_ct rfl _ _ (w.heap.size + 2) 25 #[.string ⟨#[]⟩, .int .u8 0, .string ⟨#[]⟩, .slice none 0 0] (0, 0) _ rfl HZF.out Tryd.underlying25 rfl (by kernel_rfl)) rfl ?_
        rw [← HG2.out]
        exact ⟨none, 0, rfl, Nat.le_refl _, Kd.C_nil FileK _, HB9.out⟩
      · skip
        subst hk
        have HG2 := HG1.out
        rw [if_pos rfl] at HG2
        replace HG2 := Lib.hid HG2
        by_cases hdk : d.kind = 1
        rotate_left
        · skip
          have HG3 := HG2.out
          rw [if_neg hdk] at HG3
          replace HG3 := Lib.hid HG3
          have k2 : (d.kind != 1) = true := by rw [bne_iff_ne]; exact hdk
          have ld0 := cell_of (j := 0) I.out.now.1 rfl
          have ld1 := cell_of (j := 1) I.out.now.1 rfl
          have ld2 := cell_of (j := 2) I.out.now.1 rfl
          have ld3 := cell_of (j := 3) I.out.now.1 rfl
          have HZ := I.out.now.2.2.2.2.1
          have HZF := Lib.hid (store4_box HZ (.string ⟨#[]⟩) (.int .u8 0) (.string ⟨#[]⟩) (.slice none 0 0))
          have HB9 := Lib.hid (store4_below I.out.now.2.2.2.2.2.2.2 (g := w.heap.size + 2) (by omega) (.string ⟨#[]⟩) (.int .u8 0) (.string ⟨#[]⟩) (.slice none 0 0))
          have z0 := cell_of (j := 0) HZ rfl
          have u0 := unfr HZ 0
          have z1 := cell_of (j := 1) HZ rfl
          have u1 := unfr HZ 1
          have z2 := cell_of (j := 2) HZ rfl
          have u2 := unfr HZ 2
          have z3 := cell_of (j := 3) HZ rfl
          have u3 := unfr HZ 3
          go_wp2_with fail
          refine bodyPost_ret (results_ct rfl _ _ (w.heap.size + 2) 25 #[.string ⟨#[]⟩, .int .u8 0, .string ⟨#[]⟩, .slice none 0 0] (0, 0) _ rfl HZF.out Tryd.underlying25 rfl (by kernel_rfl)) rfl ?_
          rw [← HG3.out]
          exact ⟨none, 0, rfl, Nat.le_refl _, Kd.C_nil FileK _, HB9.out⟩
        · skip
          have HG3 := HG2.out
          rw [if_pos hdk] at HG3
          replace HG3 := Lib.hid HG3
          have k2 : (d.kind != 1) = false := by rw [hdk]; rfl
          have HDK := Lib.hid hdk
          clear hdk
          have hzl := blk_lt I.out.now.2.2.2.2.1
          have ld0 := cell_of (j := 0) I.out.now.1 rfl
          have ld1 := cell_of (j := 1) I.out.now.1 rfl
          have ld2 := cell_of (j := 2) I.out.now.1 rfl
          have ld3 := cell_of (j := 3) I.out.now.1 rfl
          have lf0 := cell_of (j := 0) I.out.now.2.2.2.2.2.1 rfl
          have lf1 := cell_of (j := 1) I.out.now.2.2.2.2.2.1 rfl
          have lf2 := cell_of (j := 2) I.out.now.2.2.2.2.2.1 rfl
          have lf3 := cell_of (j := 3) I.out.now.2.2.2.2.2.1 rfl
          go_wp2_with fail
          clear ld0 ld1 ld2 ld3 lf0 lf1 lf2 lf3
          clear k2
          refine ((show Calls Tryd.prog 12 #[.agg #[.string f.name, .int .u8 f.kind, .string f.data, .slice Af f.files.length cf]] _ _ from rcopy_file f.bulk f Af cf _ (Nat.le_refl _) (by omega) I.out.now.2.1 hcf)).mono ?_
          rintro e w7 ⟨v, rfl, hR, hq7⟩
          replace I := Lib.hid (Hd.mv I.out hq7)
          obtain ⟨A3, c3, rfl, hc3, hC3⟩ := Kd.R_reads hR
          clear hC3
          replace I := Lib.hid (Hd.and I.out (Hd.rows (Kd.R_lower (Kd.R_mono (Kd.R_bound hR) (ok' := fun k => W6.heap.size ≤ k ∧ k < w7.heap.size) fun k hk => ⟨hk.2.1, hk.2.2.1⟩) (Nat.zero_le _))))
          clear hR
          have hxp := HX.out _ (bstep I.out.now.2.2.2.2.2.2.2.2 I.out.now.2.2.2.2.2.2.2.2.size (below_alloc (Below.refl w7.heap.size w7) (.cells #[.string f.name, .int .u8 f.kind, .string f.data, .slice A3 f.files.length c3] 25)))
          have wf0 := unfr (blk_new w7 (.cells #[.string f.name, .int .u8 f.kind, .string f.data, .slice A3 f.files.length c3] 25)) 0
          have wc0 := cell_of (j := 0) (blk_new w7 (.cells #[.string f.name, .int .u8 f.kind, .string f.data, .slice A3 f.files.length c3] 25)) rfl
          have ha8 := below_alloc (Below.refl w7.heap.size w7) (.cells #[.string n, .int .u8 f.kind, .string f.data, .slice A3 f.files.length c3] 25)
          replace I := Lib.hid (Hd.mv I.out ha8)
          replace I := Lib.hid (Hd.and I.out (Hd.box (blk_new w7 (.cells #[.string n, .int .u8 f.kind, .string f.data, .slice A3 f.files.length c3] 25))))
          have lt0 := cell_of (j := 0) I.out.now.2.2.2.2.2.2.2.2.1 rfl
          have lt1 := cell_of (j := 1) I.out.now.2.2.2.2.2.2.2.2.1 rfl
          have lt2 := cell_of (j := 2) I.out.now.2.2.2.2.2.2.2.2.1 rfl
          have lt3 := cell_of (j := 3) I.out.now.2.2.2.2.2.2.2.2.1 rfl
          have lx20 := cell_of (j := 0) I.out.now.1 rfl
          have lx21 := cell_of (j := 1) I.out.now.1 rfl
          have lx22 := cell_of (j := 2) I.out.now.1 rfl
          have lx23 := cell_of (j := 3) I.out.now.1 rfl
          go_wp2_with fail
          clear hxp wf0 wc0
          clear lt0 lt1 lt2 lt3 lx20 lx21 lx22 lx23
          generalize (w7.alloc (.cells #[.string n, .int .u8 f.kind, .string f.data, .slice A3 f.files.length c3] 25)) = W8 at *
          have hs1 := ha8.size
          refine ((show Calls Tryd.prog 52 #[.agg #[.string t.name, .int .u8 t.kind, .string t.data, .slice A t.files.length c], .slice (some pad) (q.length + 1) cp, .agg #[.string n, .int .u8 f.kind, .string f.data, .slice A3 f.files.length c3], .bool false] _ _ from by rw [← hqn]; exact rwith_calls false (nameF f n) A3 c3 (q ++ [n]) t A c (some pad) cp (fun k => W6.heap.size ≤ k ∧ k < w7.heap.size) _ (by simp) I.out.now.2.2.2.2.2.1 hc (by omega) I.out.now.2.2.2.2.1 (by omega) (by omega) I.out.now.2.1 (fun k h => by omega))).mono ?_
          rintro e w9 ⟨v, rfl, hR, hq9⟩
          replace I := Lib.hid (Hd.mv I.out hq9)
          have hwk := withR_keep false (nameF f n) (q ++ [n]) t
          obtain ⟨u, hu⟩ : ∃ u, withR false (nameF f n) (q ++ [n]) t = u := ⟨_, rfl⟩
          rw [hu] at hR hwk HG3
          obtain ⟨hu1, hu2, hu3⟩ := hwk
          rw [← hu1, ← hu2, ← hu3]
          have hub := HUB.out (by trivial)
          rw [hu] at hub
          clear hu hu1 hu2 hu3
          obtain ⟨A4, c4, rfl, hc4, hC4⟩ := Kd.R_reads hR
          clear hC4
          replace I := Lib.hid (Hd.and I.out (Hd.rows (Kd.R_mono hR (ok' := fun k => W6.heap.size ≤ k) fun k hk => hk.elim (fun h => h.1) fun h => by have := hq7.size; omega)))
          clear hR
          have ha10 := below_alloc (Below.refl w9.heap.size w9) (.cells #[.string u.name, .int .u8 u.kind, .string u.data, .slice A4 u.files.length c4] 25)
          replace I := Lib.hid (Hd.mv I.out ha10)
          replace I := Lib.hid (Hd.and I.out (Hd.box (blk_new w9 (.cells #[.string u.name, .int .u8 u.kind, .string u.data, .slice A4 u.files.length c4] 25))))
          have lu0 := cell_of (j := 0) I.out.now.1 rfl
          have lu1 := cell_of (j := 1) I.out.now.1 rfl
          have lu2 := cell_of (j := 2) I.out.now.1 rfl
          have lu3 := cell_of (j := 3) I.out.now.1 rfl
          go_wp2_with fail
          clear lu0 lu1 lu2 lu3
          generalize (w9.alloc (.cells #[.string u.name, .int .u8 u.kind, .string u.data, .slice A4 u.files.length c4] 25)) = W10 at *
          refine ((show Calls Tryd.prog 45 #[.agg #[.string u.name, .int .u8 u.kind, .string u.data, .slice A4 u.files.length c4]] _ _ from rright_calls u A4 c4 _ (by omega) (Kd.R_reads' I.out.now.2.1).2.2 hc4)).mono ?_
          rintro e w11 ⟨rfl, hq11⟩
          replace I := Lib.hid (Hd.mv I.out hq11)
          cases hru : rightT u
          · skip
            have HG4 := HG3.out
            rw [hru, if_neg (by decide)] at HG4
            replace HG4 := Lib.hid HG4
            have HZ := I.out.now.2.2.2.2.2.2.2.2.1
            have HZF := Lib.hid (store4_box HZ (.string ⟨#[]⟩) (.int .u8 0) (.string ⟨#[]⟩) (.slice none 0 0))
            have HB9 := Lib.hid (store4_below I.out.now.2.2.2.2.2.2.2.2.2.2.2 (g := w.heap.size + 2) (by omega) (.string ⟨#[]⟩) (.int .u8 0) (.string ⟨#[]⟩) (.slice none 0 0))
            have z0 := cell_of (j := 0) HZ rfl
            have u0 := unfr HZ 0
            have z1 := cell_of (j := 1) HZ rfl
            have u1 := unfr HZ 1
            have z2 := cell_of (j := 2) HZ rfl
            have u2 := unfr HZ 2
            have z3 := cell_of (j := 3) HZ rfl
            have u3 := unfr HZ 3
            go_wp2_with fail
            refine bodyPost_ret (results_ct rfl _ _ (w.heap.size + 2) 25 #[.string ⟨#[]⟩, .int .u8 0, .string ⟨#[]⟩, .slice none 0 0] (0, 0) _ rfl HZF.out Tryd.underlying25 rfl (by kernel_rfl)) rfl ?_
            rw [← HG4.out]
            exact ⟨none, 0, rfl, Nat.le_refl _, Kd.C_nil FileK _, HB9.out⟩
          · skip
            have HG4 := HG3.out
            rw [if_pos hru] at HG4
            replace HG4 := Lib.hid HG4
            have lu0 := cell_of (j := 0) I.out.now.1 rfl
            have lu1 := cell_of (j := 1) I.out.now.1 rfl
            have lu2 := cell_of (j := 2) I.out.now.1 rfl
            have lu3 := cell_of (j := 3) I.out.now.1 rfl
            have HRU := Lib.hid I.out.now.2.1
            have HZ := I.out.now.2.2.2.2.2.2.2.2.1
            have HZF := Lib.hid (store4_box HZ (.string u.name) (.int .u8 u.kind) (.string u.data) (.slice A4 u.files.length c4))
            have HB9 := Lib.hid (store4_below I.out.now.2.2.2.2.2.2.2.2.2.2.2 (g := w.heap.size + 2) (by omega) (.string u.name) (.int .u8 u.kind) (.string u.data) (.slice A4 u.files.length c4))
            have z0 := cell_of (j := 0) HZ rfl
            have u0 := unfr HZ 0
            have z1 := cell_of (j := 1) HZ rfl
            have u1 := unfr HZ 1
            have z2 := cell_of (j := 2) HZ rfl
            have u2 := unfr HZ 2
            have z3 := cell_of (j := 3) HZ rfl
            have u3 := unfr HZ 3
            go_wp2_with fail
            refine bodyPost_ret (results_ct rfl _ _ (w.heap.size + 2) 25 #[.string u.name, .int .u8 u.kind, .string u.data, .slice A4 u.files.length c4] (0, 0) _ rfl HZF.out Tryd.underlying25 rfl (by kernel_rfl)) rfl ?_
            rw [← HG4.out]
            refine ⟨A4, c4, rfl, hc4, ?_, HB9.out⟩
            exact (Kd.R_reads' (Kd.R_step HRU.out fun k hk _ => store4_other _ (g := w.heap.size + 2) (by omega) _ _ _ _)).2.2

end Go.Proofs.YtdnhjnlhmfajnaaDoor.G
