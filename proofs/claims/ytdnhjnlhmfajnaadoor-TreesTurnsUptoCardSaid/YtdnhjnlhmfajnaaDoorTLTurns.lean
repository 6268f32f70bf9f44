/- The law TreesTurns, walked. Printed by wip/tools/gen_lturns.py. -/
import Derived.Test.YtdnhjnlhmfajnaaDoorTTurnsQ
import Derived.Test.YtdnhjnlhmfajnaaDoorTLives
import Derived.Test.YtdnhjnlhmfajnaaDoorTFrame
namespace Go.Proofs.YtdnhjnlhmfajnaaDoor.G
open Go.RowKit Go.Lib Go.Proofs.YtdnhjnlhmfajnaaDoorW.PrintWords Go.Proofs.YtdnhjnlhmfajnaaDoorW.PrintLast
set_option linter.unusedVariables false
set_option linter.unusedSimpArgs false

set_option maxHeartbeats 8000000 in
set_option maxRecDepth 100000 in
theorem lturns_calls (t f : File) (A Af Ap : Option Addr) (c cf cp : Nat) (p : List ByteArray) (w : World) (ht : FileK.C w A t.files.length t.files) (hc : t.files.length ≤ c) (hbt : t.bulk ≤ 1048576) (hf : FileK.C w Af f.files.length f.files) (hcf : f.files.length ≤ cf) (hbf : f.bulk ≤ 1048576) (hn : ∀ n ∈ p, n.size ≤ 1048576) (hp : Kd.C Kd.string w Ap p.length p) (hcp : p.length ≤ cp) (hpl : p.length ≤ 1048576) (hG : Tab w) (hM : Maxed w) :
    Calls Tryd.prog 5 #[fileV t A c, .slice Ap p.length cp, fileV f Af cf] w fun e w' => e = .returned (.bool true) ∧ Below w.heap.size w w' := by
  have HG := Lib.hid hG
  have HM := Lib.hid hM
  have HN := Lib.hid hn
  have h2 := two_boxes w #[.string t.name, .int .u8 t.kind, .string t.data, .slice A t.files.length c] #[.string f.name, .int .u8 f.kind, .string f.data, .slice Af f.files.length cf] 25 25
  have hb0 := ((Below.refl w.heap.size w).alloc (Nat.le_refl _) (.cells #[.string t.name, .int .u8 t.kind, .string t.data, .slice A t.files.length c] 25)).alloc (by simp) (.cells #[.string f.name, .int .u8 f.kind, .string f.data, .slice Af f.files.length cf] 25)
  have I := Lib.hid (Hd.base hb0 (by first | exact Nat.le_refl _ | exact Below.size hb0))
  replace I := Lib.hid (Hd.and I.out (Hd.box (h2.1)))
  replace I := Lib.hid (Hd.and I.out (Hd.box (h2.2)))
  replace I := Lib.hid (Hd.and I.out (Hd.reads (Kd.C_below ht hb0)))
  replace I := Lib.hid (Hd.and I.out (Hd.reads (Kd.C_below hf hb0)))
  replace I := Lib.hid (Hd.and I.out (Hd.reads (Kd.C_below hp hb0)))
  have HPB := Lib.hid (putA_bulk t f p (fun n hm => by have := hn n hm; omega))
  have HDB := Lib.hid (dropA_bulk t p)
  have HGB := Lib.hid (get_bulk t p)
  clear h2 hG hM ht hf hp hn
  go_enter Tryd.func5, Tryd.ntmps5
  unfold fileV
  have lt0 := cell_of (j := 0) I.out.now.2.2.2.2.1 rfl
  have lt1 := cell_of (j := 1) I.out.now.2.2.2.2.1 rfl
  have lt2 := cell_of (j := 2) I.out.now.2.2.2.2.1 rfl
  have lt3 := cell_of (j := 3) I.out.now.2.2.2.2.1 rfl
  go_wp2_with fail
  clear lt0 lt1 lt2 lt3
  generalize ((w.alloc (.cells #[.string t.name, .int .u8 t.kind, .string t.data, .slice A t.files.length c] 25)).alloc (.cells #[.string f.name, .int .u8 f.kind, .string f.data, .slice Af f.files.length cf] 25)) = W0 at *
  refine (rcopyC t A c _ (by omega) I.out.now.2.2.1 hc).mono ?_
  rintro e w1 ⟨A1, c1, rfl, hc1, hC1, hq1⟩
  replace I := Lib.hid (Hd.mv I.out hq1)
  replace I := Lib.hid (Hd.and I.out (Hd.reads (hC1)))
  clear hC1
  have ha2 := below_alloc (Below.refl w1.heap.size w1) (.cells #[.string t.name, .int .u8 t.kind, .string t.data, .slice A1 t.files.length c1] 25)
  replace I := Lib.hid (Hd.mv I.out ha2)
  replace I := Lib.hid (Hd.and I.out (Hd.box (blk_new w1 (.cells #[.string t.name, .int .u8 t.kind, .string t.data, .slice A1 t.files.length c1] 25))))
  have lc0 := cell_of (j := 0) I.out.now.1 rfl
  have lc1 := cell_of (j := 1) I.out.now.1 rfl
  have lc2 := cell_of (j := 2) I.out.now.1 rfl
  have lc3 := cell_of (j := 3) I.out.now.1 rfl
  go_wp2_with fail
  clear lc0 lc1 lc2 lc3
  generalize (w1.alloc (.cells #[.string t.name, .int .u8 t.kind, .string t.data, .slice A1 t.files.length c1] 25)) = W2 at *
  refine (getC t A1 c1 Ap cp p _ I.out.now.2.1 hc1 (by omega) I.out.now.2.2.1 hcp (by omega)).mono ?_
  rintro e w3 ⟨⟨A3, c3, rfl, hc3, hC3⟩, hq3⟩
  replace I := Lib.hid (Hd.mv I.out hq3)
  obtain ⟨⟨a, ka⟩, hy⟩ : ∃ g, getR t p = g := ⟨_, rfl⟩
  have HYa := Lib.hid hy
  rw [hy] at hc3 hC3 ⊢
  simp only at hc3 hC3 ⊢
  clear hy
  replace I := Lib.hid (Hd.and I.out (Hd.reads (hC3)))
  clear hC3
  have ha4 := below_alloc (Below.refl w3.heap.size w3) (.cells #[.string a.name, .int .u8 a.kind, .string a.data, .slice A3 a.files.length c3] 25)
  replace I := Lib.hid (Hd.mv I.out ha4)
  replace I := Lib.hid (Hd.and I.out (Hd.box (blk_new w3 (.cells #[.string a.name, .int .u8 a.kind, .string a.data, .slice A3 a.files.length c3] 25))))
  have lt0 := cell_of (j := 0) I.out.now.2.2.2.2.2.2.2.2.1 rfl
  have lt1 := cell_of (j := 1) I.out.now.2.2.2.2.2.2.2.2.1 rfl
  have lt2 := cell_of (j := 2) I.out.now.2.2.2.2.2.2.2.2.1 rfl
  have lt3 := cell_of (j := 3) I.out.now.2.2.2.2.2.2.2.2.1 rfl
  go_wp2_with fail
  clear lt0 lt1 lt2 lt3
  generalize (w3.alloc (.cells #[.string a.name, .int .u8 a.kind, .string a.data, .slice A3 a.files.length c3] 25)) = W4 at *
  refine (rgetC t A c Ap cp p _ I.out.now.2.2.2.2.2.2.1 hc (by omega) I.out.now.2.2.2.2.1 hcp (by omega)).mono ?_
  rintro e w5 ⟨⟨A5, c5, rfl, hc5, hC5⟩, hq5⟩
  replace I := Lib.hid (Hd.mv I.out hq5)
  have hy := HYa.out
  rw [hy] at hc5 hC5 ⊢
  simp only at hc5 hC5 ⊢
  clear hy
  replace I := Lib.hid (Hd.and I.out (Hd.reads (hC5)))
  clear hC5
  have ha6 := below_alloc (Below.refl w5.heap.size w5) (.cells #[.string a.name, .int .u8 a.kind, .string a.data, .slice A5 a.files.length c5] 25)
  replace I := Lib.hid (Hd.mv I.out ha6)
  replace I := Lib.hid (Hd.and I.out (Hd.box (blk_new w5 (.cells #[.string a.name, .int .u8 a.kind, .string a.data, .slice A5 a.files.length c5] 25))))
  have lc0 := cell_of (j := 0) I.out.now.2.2.2.2.1 rfl
  have lc1 := cell_of (j := 1) I.out.now.2.2.2.2.1 rfl
  have lc2 := cell_of (j := 2) I.out.now.2.2.2.2.1 rfl
  have lc3 := cell_of (j := 3) I.out.now.2.2.2.2.1 rfl
  have lf0 := cell_of (j := 0) I.out.now.2.2.2.2.2.2.2.2.2.1 rfl
  have lf1 := cell_of (j := 1) I.out.now.2.2.2.2.2.2.2.2.2.1 rfl
  have lf2 := cell_of (j := 2) I.out.now.2.2.2.2.2.2.2.2.2.1 rfl
  have lf3 := cell_of (j := 3) I.out.now.2.2.2.2.2.2.2.2.2.1 rfl
  go_wp2_with fail
  clear lc0 lc1 lc2 lc3 lf0 lf1 lf2 lf3
  generalize (w5.alloc (.cells #[.string a.name, .int .u8 a.kind, .string a.data, .slice A5 a.files.length c5] 25)) = W6 at *
  refine (putC t f A1 Af c1 cf Ap cp p _ I.out.now.2.2.2.2.2.1 hc1 (by omega) I.out.now.2.2.2.2.2.2.1 hcp (by omega) I.out.now.2.2.2.2.2.2.2.1 hcf (by omega) (fun n hm => by have := HN.out n hm; omega)).mono ?_
  rintro e w7 ⟨⟨A7, c7, rfl, hc7, hC7⟩, hq7⟩
  replace I := Lib.hid (Hd.mv I.out hq7)
  obtain ⟨⟨x, kx⟩, hy⟩ : ∃ g, putA t p f = g := ⟨_, rfl⟩
  have HYx := Lib.hid hy
  rw [hy] at hc7 hC7 ⊢
  simp only at hc7 hC7 ⊢
  clear hy
  replace I := Lib.hid (Hd.and I.out (Hd.reads (hC7)))
  clear hC7
  have ha8 := below_alloc (Below.refl w7.heap.size w7) (.cells #[.string x.name, .int .u8 x.kind, .string x.data, .slice A7 x.files.length c7] 25)
  replace I := Lib.hid (Hd.mv I.out ha8)
  replace I := Lib.hid (Hd.and I.out (Hd.box (blk_new w7 (.cells #[.string x.name, .int .u8 x.kind, .string x.data, .slice A7 x.files.length c7] 25))))
  have lt0 := cell_of (j := 0) I.out.now.2.2.2.2.2.2.2.2.2.2.2.2.1 rfl
  have lt1 := cell_of (j := 1) I.out.now.2.2.2.2.2.2.2.2.2.2.2.2.1 rfl
  have lt2 := cell_of (j := 2) I.out.now.2.2.2.2.2.2.2.2.2.2.2.2.1 rfl
  have lt3 := cell_of (j := 3) I.out.now.2.2.2.2.2.2.2.2.2.2.2.2.1 rfl
  have lf0 := cell_of (j := 0) I.out.now.2.2.2.2.2.2.2.2.2.2.2.1 rfl
  have lf1 := cell_of (j := 1) I.out.now.2.2.2.2.2.2.2.2.2.2.2.1 rfl
  have lf2 := cell_of (j := 2) I.out.now.2.2.2.2.2.2.2.2.2.2.2.1 rfl
  have lf3 := cell_of (j := 3) I.out.now.2.2.2.2.2.2.2.2.2.2.2.1 rfl
  go_wp2_with fail
  clear lt0 lt1 lt2 lt3 lf0 lf1 lf2 lf3
  generalize (w7.alloc (.cells #[.string x.name, .int .u8 x.kind, .string x.data, .slice A7 x.files.length c7] 25)) = W8 at *
  refine (rputC t f A Af c cf Ap cp p _ I.out.now.2.2.2.2.2.2.2.2.2.2.1 hc (by omega) I.out.now.2.2.2.2.2.2.2.2.1 hcp (by omega) I.out.now.2.2.2.2.2.2.2.2.2.1 hcf (by omega) (fun n hm => by have := HN.out n hm; omega)).mono ?_
  rintro e w9 ⟨⟨A9, c9, rfl, hc9, hC9⟩, hq9⟩
  replace I := Lib.hid (Hd.mv I.out hq9)
  have hy := HYx.out
  rw [hy] at hc9 hC9 ⊢
  simp only at hc9 hC9 ⊢
  clear hy
  replace I := Lib.hid (Hd.and I.out (Hd.reads (hC9)))
  clear hC9
  have ha10 := below_alloc (Below.refl w9.heap.size w9) (.cells #[.string x.name, .int .u8 x.kind, .string x.data, .slice A9 x.files.length c9] 25)
  replace I := Lib.hid (Hd.mv I.out ha10)
  replace I := Lib.hid (Hd.and I.out (Hd.box (blk_new w9 (.cells #[.string x.name, .int .u8 x.kind, .string x.data, .slice A9 x.files.length c9] 25))))
  have lc0 := cell_of (j := 0) I.out.now.2.2.2.2.2.2.2.2.1 rfl
  have lc1 := cell_of (j := 1) I.out.now.2.2.2.2.2.2.2.2.1 rfl
  have lc2 := cell_of (j := 2) I.out.now.2.2.2.2.2.2.2.2.1 rfl
  have lc3 := cell_of (j := 3) I.out.now.2.2.2.2.2.2.2.2.1 rfl
  go_wp2_with fail
  clear lc0 lc1 lc2 lc3
  generalize (w9.alloc (.cells #[.string x.name, .int .u8 x.kind, .string x.data, .slice A9 x.files.length c9] 25)) = W10 at *
  refine (dropC t A1 c1 Ap cp p _ I.out.now.2.2.2.2.2.2.2.2.2.1 hc1 (by omega) I.out.now.2.2.2.2.2.2.2.2.2.2.1 hcp (by omega)).mono ?_
  rintro e w11 ⟨⟨A11, c11, rfl, hc11, hC11⟩, hq11⟩
  replace I := Lib.hid (Hd.mv I.out hq11)
  obtain ⟨⟨d, kd⟩, hy⟩ : ∃ g, dropA t p = g := ⟨_, rfl⟩
  have HYd := Lib.hid hy
  rw [hy] at hc11 hC11 ⊢
  simp only at hc11 hC11 ⊢
  clear hy
  replace I := Lib.hid (Hd.and I.out (Hd.reads (hC11)))
  clear hC11
  have ha12 := below_alloc (Below.refl w11.heap.size w11) (.cells #[.string d.name, .int .u8 d.kind, .string d.data, .slice A11 d.files.length c11] 25)
  replace I := Lib.hid (Hd.mv I.out ha12)
  replace I := Lib.hid (Hd.and I.out (Hd.box (blk_new w11 (.cells #[.string d.name, .int .u8 d.kind, .string d.data, .slice A11 d.files.length c11] 25))))
  have lt0 := cell_of (j := 0) I.out.now.2.2.2.2.2.2.2.2.2.2.2.2.2.2.2.2.1 rfl
  have lt1 := cell_of (j := 1) I.out.now.2.2.2.2.2.2.2.2.2.2.2.2.2.2.2.2.1 rfl
  have lt2 := cell_of (j := 2) I.out.now.2.2.2.2.2.2.2.2.2.2.2.2.2.2.2.2.1 rfl
  have lt3 := cell_of (j := 3) I.out.now.2.2.2.2.2.2.2.2.2.2.2.2.2.2.2.2.1 rfl
  go_wp2_with fail
  clear lt0 lt1 lt2 lt3
  generalize (w11.alloc (.cells #[.string d.name, .int .u8 d.kind, .string d.data, .slice A11 d.files.length c11] 25)) = W12 at *
  refine (rdropC t A c Ap cp p _ I.out.now.2.2.2.2.2.2.2.2.2.2.2.2.2.2.1 hc (by omega) I.out.now.2.2.2.2.2.2.2.2.2.2.2.2.1 hcp (by omega)).mono ?_
  rintro e w13 ⟨⟨A13, c13, rfl, hc13, hC13⟩, hq13⟩
  replace I := Lib.hid (Hd.mv I.out hq13)
  have hy := HYd.out
  rw [hy] at hc13 hC13 ⊢
  simp only at hc13 hC13 ⊢
  clear hy
  replace I := Lib.hid (Hd.and I.out (Hd.reads (hC13)))
  clear hC13
  have ha14 := below_alloc (Below.refl w13.heap.size w13) (.cells #[.string d.name, .int .u8 d.kind, .string d.data, .slice A13 d.files.length c13] 25)
  replace I := Lib.hid (Hd.mv I.out ha14)
  replace I := Lib.hid (Hd.and I.out (Hd.box (blk_new w13 (.cells #[.string d.name, .int .u8 d.kind, .string d.data, .slice A13 d.files.length c13] 25))))
  have hpb := HPB.out
  have hdb := HDB.out
  have hgb := HGB.out
  rw [HYa.out] at hgb
  rw [HYx.out] at hpb
  rw [HYd.out] at hdb
  simp only at hgb hpb hdb
  have ea : (ka == ka) = true := beq_self_eq_true _
  have ex : (kx == kx) = true := beq_self_eq_true _
  have ed : (kd == kd) = true := beq_self_eq_true _
  go_wp2_with fail
  generalize (w13.alloc (.cells #[.string d.name, .int .u8 d.kind, .string d.data, .slice A13 d.files.length c13] 25)) = W14 at *
  refine ((lives_calls _ (Tab_b HG.out I.out.now.2.2.2.2.2.2.2.2.2.2.2.2.2.2.2.2.2.2.2) (Maxed_below HM.out I.out.now.2.2.2.2.2.2.2.2.2.2.2.2.2.2.2.2.2.2.2))).mono ?_
  rintro e w15 ⟨rfl, hq15⟩
  replace I := Lib.hid (Hd.mv I.out hq15)
  have la10 := cell_of (j := 0) I.out.now.2.2.2.2.2.2.2.2.2.2.1 rfl
  have la11 := cell_of (j := 1) I.out.now.2.2.2.2.2.2.2.2.2.2.1 rfl
  have la12 := cell_of (j := 2) I.out.now.2.2.2.2.2.2.2.2.2.2.1 rfl
  have la13 := cell_of (j := 3) I.out.now.2.2.2.2.2.2.2.2.2.2.1 rfl
  have la20 := cell_of (j := 0) I.out.now.2.2.2.2.2.2.2.2.1 rfl
  have la21 := cell_of (j := 1) I.out.now.2.2.2.2.2.2.2.2.1 rfl
  have la22 := cell_of (j := 2) I.out.now.2.2.2.2.2.2.2.2.1 rfl
  have la23 := cell_of (j := 3) I.out.now.2.2.2.2.2.2.2.2.1 rfl
  go_wp2_with fail
  clear la10 la11 la12 la13 la20 la21 la22 la23
  refine (sameC a A3 A5 c3 c5 _ (by omega) I.out.now.2.2.2.2.2.2.2.2.2.2.2.1 hc3 I.out.now.2.2.2.2.2.2.2.2.2.1 hc5).mono ?_
  rintro e w16 ⟨rfl, hq16⟩
  replace I := Lib.hid (Hd.mv I.out hq16)
  have lx10 := cell_of (j := 0) I.out.now.2.2.2.2.2.2.1 rfl
  have lx11 := cell_of (j := 1) I.out.now.2.2.2.2.2.2.1 rfl
  have lx12 := cell_of (j := 2) I.out.now.2.2.2.2.2.2.1 rfl
  have lx13 := cell_of (j := 3) I.out.now.2.2.2.2.2.2.1 rfl
  have lx20 := cell_of (j := 0) I.out.now.2.2.2.2.1 rfl
  have lx21 := cell_of (j := 1) I.out.now.2.2.2.2.1 rfl
  have lx22 := cell_of (j := 2) I.out.now.2.2.2.2.1 rfl
  have lx23 := cell_of (j := 3) I.out.now.2.2.2.2.1 rfl
  go_wp2_with fail
  clear lx10 lx11 lx12 lx13 lx20 lx21 lx22 lx23
  refine (sameC x A7 A9 c7 c9 _ (by omega) I.out.now.2.2.2.2.2.2.2.1 hc7 I.out.now.2.2.2.2.2.1 hc9).mono ?_
  rintro e w17 ⟨rfl, hq17⟩
  replace I := Lib.hid (Hd.mv I.out hq17)
  have ld10 := cell_of (j := 0) I.out.now.2.2.1 rfl
  have ld11 := cell_of (j := 1) I.out.now.2.2.1 rfl
  have ld12 := cell_of (j := 2) I.out.now.2.2.1 rfl
  have ld13 := cell_of (j := 3) I.out.now.2.2.1 rfl
  have ld20 := cell_of (j := 0) I.out.now.1 rfl
  have ld21 := cell_of (j := 1) I.out.now.1 rfl
  have ld22 := cell_of (j := 2) I.out.now.1 rfl
  have ld23 := cell_of (j := 3) I.out.now.1 rfl
  go_wp2_with fail
  clear ld10 ld11 ld12 ld13 ld20 ld21 ld22 ld23
  refine (sameC d A11 A13 c11 c13 _ (by omega) I.out.now.2.2.2.1 hc11 I.out.now.2.1 hc13).mono ?_
  rintro e w18 ⟨rfl, hq18⟩
  replace I := Lib.hid (Hd.mv I.out hq18)
  have lc0 := cell_of (j := 0) I.out.now.2.2.2.2.2.2.2.2.2.2.2.2.1 rfl
  have lc1 := cell_of (j := 1) I.out.now.2.2.2.2.2.2.2.2.2.2.2.2.1 rfl
  have lc2 := cell_of (j := 2) I.out.now.2.2.2.2.2.2.2.2.2.2.2.2.1 rfl
  have lc3 := cell_of (j := 3) I.out.now.2.2.2.2.2.2.2.2.2.2.2.2.1 rfl
  have lt0 := cell_of (j := 0) I.out.now.2.2.2.2.2.2.2.2.2.2.2.2.2.2.2.2.2.2.1 rfl
  have lt1 := cell_of (j := 1) I.out.now.2.2.2.2.2.2.2.2.2.2.2.2.2.2.2.2.2.2.1 rfl
  have lt2 := cell_of (j := 2) I.out.now.2.2.2.2.2.2.2.2.2.2.2.2.2.2.2.2.2.2.1 rfl
  have lt3 := cell_of (j := 3) I.out.now.2.2.2.2.2.2.2.2.2.2.2.2.2.2.2.2.2.2.1 rfl
  go_wp2_with fail
  clear lc0 lc1 lc2 lc3 lt0 lt1 lt2 lt3
  refine (sameC t A1 A c1 c _ (by omega) I.out.now.2.2.2.2.2.2.2.2.2.2.2.2.2.1 hc1 I.out.now.2.2.2.2.2.2.2.2.2.2.2.2.2.2.2.2.1 hc).mono ?_
  rintro e w19 ⟨rfl, hq19⟩
  replace I := Lib.hid (Hd.mv I.out hq19)
  go_wp2_with fail
  go_ret
  exact ⟨rfl, I.out.now.2.2.2.2.2.2.2.2.2.2.2.2.2.2.2.2.2.2.2⟩
theorem sumP_mem {p : List ByteArray} {n : ByteArray} (h : n ∈ p) : (n.size : Int) + 1 ≤ sumP p := by
  induction p with
  | nil => cases h
  | cons a p ih =>
    have h1 : sumP (a :: p) = 1 + (a.size : Int) + sumP p := by simp [sumP]
    have h2 := sumP_len p
    rcases List.mem_cons.1 h with rfl | h
    · omega
    · have := ih h; omega
theorem lturns_all (t : File) (A : Option Addr) (c : Nat) (Ap : Option Addr) (cp : Nat) (p : List ByteArray) (f : File) (Af : Option Addr) (cf : Nat) (w : World) (ht : FileK.C w A t.files.length t.files) (hc : t.files.length ≤ c) (hbt : t.bulk ≤ 1048576) (hp : Kd.C Kd.string w Ap p.length p) (hcp : p.length ≤ cp) (hpb : sumP p ≤ 1048576) (hf : FileK.C w Af f.files.length f.files) (hcf : f.files.length ≤ cf) (hbf : f.bulk ≤ 1048576) (hG : Tab w) (hM : Maxed w) :
    Calls Tryd.prog 5 #[fileV t A c, .slice Ap p.length cp, fileV f Af cf] w fun e w' => e = .returned (.bool true) ∧ Below w.heap.size w w' := by
  have hl := sumP_len p
  exact lturns_calls t f A Af Ap c cf cp p w ht hc hbt hf hcf hbf (fun n hn => by have := sumP_mem hn; omega) hp hcp (by omega) hG hM
end Go.Proofs.YtdnhjnlhmfajnaaDoor.G
