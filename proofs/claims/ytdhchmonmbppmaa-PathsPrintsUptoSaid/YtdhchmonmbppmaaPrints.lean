/- The law PathsPrints: it returns true. -/
import Derived.Test.YtdhchmonmbppmaaRef4
namespace Go.Proofs.Ytdhchmonmbppmaa.G
open Go.RowKit Go.Lib Go.Proofs.YtdhchmonmbppmaaW.PrintWords Go.Proofs.YtdhchmonmbppmaaW.PrintLast
set_option linter.unusedVariables false

theorem sameB_self (a : List ByteArray) : sameB a a = true := by simp [sameB]
theorem int_ne_self (n : Int) : (n != n) = false := by simp
theorem int_eq_self (n : Int) : (n == n) = true := by simp
theorem str_ne_self (l : List UInt8) : (l != l) = false := by simp
theorem str_eq_self (l : List UInt8) : (l == l) = true := by simp
theorem bool_ne_self (b : Bool) : (b != b) = false := by simp
/-- A row that a call made, read in a later world. -/
theorem C_of_R {e base : Nat} {w : World} {ok : Nat → Prop} {v : Value} {l : List ByteArray} (h : Kd.R Kd.string e w base ok v l) :
    ∃ A c, v = .slice A l.length c ∧ l.length ≤ c ∧ Kd.C Kd.string w A l.length l := Kd.R_reads h

theorem joinR_len (l : List ByteArray) (name : ByteArray) : (joinR l name).1.length ≤ l.length + 1 := by
  unfold joinR
  split
  · split <;> simp
  · simp

set_option maxHeartbeats 8000000 in
set_option maxRecDepth 100000 in
theorem prints_calls (A : Option Addr) (c : Nat) (a : List ByteArray) (B : Option Addr) (d : Nat) (b : List ByteArray) (name : ByteArray) (w : World)
    (hr : Kd.C Kd.string w A a.length a) (hc : a.length ≤ c) (hl : a.length ≤ 1048576) (hs : sumP a ≤ 2097152)
    (hr2 : Kd.C Kd.string w B b.length b) (hd : b.length ≤ d) (hl2 : b.length ≤ 1048576) (hs2 : sumP b ≤ 2097152) (hn : name.size ≤ 1048576) :
    Calls Try.prog 3 #[.slice A a.length c, .slice B b.length d, .string name] w fun e w' => e = .returned (.bool true) ∧ Below w.heap.size w w' := by
  have HR := Lib.hid hr
  have HR2 := Lib.hid hr2
  clear hr hr2
  have h01 := Lib.hid (bool_ne_self (nameB name.data.toList))
  go_enter Try.func3, Try.ntmps3
  go_wp2_with fail
  refine (rcopy_calls A c a _ HR.out hc (by omega)).mono ?_
  rintro e w1 ⟨v1, rfl, ho, hb⟩
  obtain ⟨A1, c1, rfl, hc1, hC1⟩ := C_of_R ho
  have HC1 := Lib.hid hC1
  clear ho hC1
  go_wp2_with fail
  refine (rcopy_calls B d b _ (Kd.C_below HR2.out hb) hd (by omega)).mono ?_
  rintro e w2 ⟨v2, rfl, ho, hb2⟩
  obtain ⟨A2, c2, rfl, hc2, hC2⟩ := C_of_R ho
  have HC2 := Lib.hid hC2
  have HD1 := Lib.hid (Kd.C_below HC1.out hb2)
  have hbb := bstep hb hb.size hb2
  clear ho hC2 HC1 hb hb2
  go_wp2_with fail
  refine (paths_Name.calls name _ _ rfl).mono ?_
  rintro e w3 ⟨rfl, hb3⟩
  have HD2 := Lib.hid (Kd.C_below HC2.out hb3)
  have HE1 := Lib.hid (Kd.C_below HD1.out hb3)
  have hbc := bstep hbb hbb.size hb3
  clear HC2 HD1 hbb hb3
  go_wp2_with fail
  refine (rname_calls name _).mono ?_
  rintro e w4 ⟨rfl, hw4⟩
  rw [hw4]
  clear hw4
  have h1 := h01.out
  generalize nameB name.data.toList = nb at *
  go_wp2_with fail
  refine (right_calls A1 c1 a _ HE1.out hc1 (by omega) (by omega)).mono ?_
  rintro e w5 ⟨rfl, hb5⟩
  have HF1 := Lib.hid (Kd.C_below HE1.out hb5)
  have HF2 := Lib.hid (Kd.C_below HD2.out hb5)
  have hbd := bstep hbc hbc.size hb5
  clear HE1 HD2 hbc hb5
  go_wp2_with fail
  refine (rright_calls A c a _ (Kd.C_below HR.out hbd) hc (by omega) (by omega)).mono ?_
  rintro e w6 ⟨rfl, hw⟩
  rw [hw]
  clear hw
  have h2 := bool_ne_self (rightB a)
  generalize rightB a = ra at *
  go_wp2_with fail
  clear h1 h2 h01
  refine (print_calls A1 c1 a _ HF1.out hc1 (by omega) (by omega)).mono ?_
  rintro e w7 ⟨rfl, hb7⟩
  have HG1 := Lib.hid (Kd.C_below HF1.out hb7)
  have HG2 := Lib.hid (Kd.C_below HF2.out hb7)
  have hbe := bstep hbd hbd.size hb7
  clear HF1 HF2 hbd hb7
  go_wp2_with fail
  refine (rprint_calls A c a _ (Kd.C_below HR.out hbe) hc (by omega) (by omega)).mono ?_
  rintro e w8 ⟨rfl, hw⟩
  rw [hw]
  clear hw
  generalize (printR a).1.toArray = P1 at *
  generalize (printR a).2 = P2 at *
  have h1 := str_ne_self (ByteArray.mk P1).toList
  have h2 := int_ne_self P2
  generalize ByteArray.mk P1 = S1 at *
  go_wp2_with fail
  clear h1 h2
  refine (rel_calls A2 c2 b A1 c1 a _ HG2.out hc2 (by omega) (by omega) HG1.out hc1 (by omega) (by omega)).mono ?_
  rintro e w9 ⟨rfl, hb9⟩
  have HH1 := Lib.hid (Kd.C_below HG1.out hb9)
  have HH2 := Lib.hid (Kd.C_below HG2.out hb9)
  have hbf := bstep hbe hbe.size hb9
  clear HG1 HG2 hbe hb9
  go_wp2_with fail
  refine (rrel_calls B d b A c a _ (Kd.C_below HR2.out hbf) hd (by omega) (by omega) (Kd.C_below HR.out hbf) hc (by omega) (by omega)).mono ?_
  rintro e w10 ⟨rfl, n10, hw10⟩
  have hb10 : Below w10.heap.size w9 w10 := by rw [hw10]; exact bdrewN (Below.refl _ _) n10
  have HI1 := Lib.hid (show Kd.C Kd.string w10 A1 a.length a by rw [hw10]; exact Kd.C_below HH1.out (bdrewN (Below.refl _ _) n10))
  have HI2 := Lib.hid (show Kd.C Kd.string w10 A2 b.length b by rw [hw10]; exact Kd.C_below HH2.out (bdrewN (Below.refl _ _) n10))
  have hbg : Below w.heap.size w w10 := by rw [hw10]; exact bdrewN hbf n10
  clear HH1 HH2 hbf hb10 hw10
  generalize (relR b a).1.toArray = P3 at *
  generalize (relR b a).2 = P4 at *
  have h1 := str_ne_self (ByteArray.mk P3).toList
  have h2 := int_ne_self P4
  generalize ByteArray.mk P3 = S3 at *
  go_wp2_with fail
  clear h1 h2
  have hdl : a.dropLast.length ≤ 1048576 := by rw [List.length_dropLast]; omega
  have HPA := Lib.hid (fun W h => rparent_calls A c a W h hc (by omega))
  have HPB := Lib.hid (parent_calls A1 c1 a _ HI1.out hc1 (by omega))
  generalize a.dropLast = D at *
  refine HPB.out.mono ?_
  clear HPB
  rintro e w11 ⟨v11, rfl, ho, hb11⟩
  obtain ⟨A3, c3, rfl, hc3, hC⟩ := C_of_R ho
  have HK3 := Lib.hid hC
  have HK1 := Lib.hid (Kd.C_below HI1.out hb11)
  have HK2 := Lib.hid (Kd.C_below HI2.out hb11)
  have hbh := bstep hbg hbg.size hb11
  clear HI1 HI2 hbg hb11 ho hC
  go_wp2_with fail
  refine (HPA.out _ (Kd.C_below HR.out hbh)).mono ?_
  clear HPA
  rintro e w12 ⟨v12, rfl, ho, hb12⟩
  obtain ⟨A4, c4, rfl, hc4, hC⟩ := C_of_R ho
  have HL4 := Lib.hid hC
  have HL3 := Lib.hid (Kd.C_below HK3.out hb12)
  have HL1 := Lib.hid (Kd.C_below HK1.out hb12)
  have HL2 := Lib.hid (Kd.C_below HK2.out hb12)
  have hbi := bstep hbh hbh.size hb12
  clear HK1 HK2 HK3 hbh hb12 ho hC
  go_wp2_with fail
  refine (rsame_calls A3 c3 D A4 c4 D _ HL3.out hc3 HL4.out hc4 (by omega)).mono ?_
  rintro e w13 ⟨rfl, n13, hw13⟩
  have HM1 := Lib.hid (show Kd.C Kd.string w13 A1 a.length a by rw [hw13]; exact Kd.C_below HL1.out (bdrewN (Below.refl _ _) n13))
  have HM2 := Lib.hid (show Kd.C Kd.string w13 A2 b.length b by rw [hw13]; exact Kd.C_below HL2.out (bdrewN (Below.refl _ _) n13))
  have hbj : Below w.heap.size w w13 := by rw [hw13]; exact bdrewN hbi n13
  clear HL1 HL2 HL3 HL4 hbi hw13 hc3 hc4
  rw [sameB_self]
  have h1 := str_ne_self (lastP a).toList
  have h2 := bool_ne_self (!a.isEmpty)
  generalize lastP a = S5 at *
  generalize (!a.isEmpty) = B6 at *
  go_wp2_with fail
  clear h1 h2
  refine (pjoin_calls A1 c1 a name _ HM1.out hc1 (by omega) (by omega) (by omega)).mono ?_
  rintro e w14 ⟨v14, rfl, ho, hb14⟩
  obtain ⟨A5, c5, rfl, hc5, hC⟩ := C_of_R ho
  have HN3 := Lib.hid hC
  have HN1 := Lib.hid (Kd.C_below HM1.out hb14)
  have HN2 := Lib.hid (Kd.C_below HM2.out hb14)
  have hbk := bstep hbj hbj.size hb14
  clear HM1 HM2 hbj hb14 ho hC
  go_wp2_with fail
  refine (rjoin_calls A c a name _ (Kd.C_below HR.out hbk) hc (by omega) (by omega) (by omega)).mono ?_
  rintro e w15 ⟨v15, rfl, ho, hb15⟩
  obtain ⟨A6, c6, rfl, hc6, hC⟩ := C_of_R ho
  have HO4 := Lib.hid hC
  have HO3 := Lib.hid (Kd.C_below HN3.out hb15)
  have HO1 := Lib.hid (Kd.C_below HN1.out hb15)
  have HO2 := Lib.hid (Kd.C_below HN2.out hb15)
  have hbl := bstep hbk hbk.size hb15
  have hjl := joinR_len a name
  clear HN1 HN2 HN3 hbk hb15 ho hC
  generalize (joinR a name).1 = J at *
  generalize (joinR a name).2 = P7 at *
  have h2 := int_eq_self P7
  go_wp2_with fail
  refine (rsame_calls A5 c5 J A6 c6 J _ HO3.out hc5 HO4.out hc6 (by omega)).mono ?_
  rintro e w16 ⟨rfl, n16, hw16⟩
  have HP1 := Lib.hid (show Kd.C Kd.string w16 A1 a.length a by rw [hw16]; exact Kd.C_below HO1.out (bdrewN (Below.refl _ _) n16))
  have HP2 := Lib.hid (show Kd.C Kd.string w16 A2 b.length b by rw [hw16]; exact Kd.C_below HO2.out (bdrewN (Below.refl _ _) n16))
  have hbm : Below w.heap.size w w16 := by rw [hw16]; exact bdrewN hbl n16
  clear HO1 HO2 HO3 HO4 hbl hw16 hc5 hc6
  rw [sameB_self]
  go_wp2_with fail
  refine (rsame_calls A1 c1 a A c a _ HP1.out hc1 (Kd.C_below HR.out hbm) hc (by omega)).mono ?_
  rintro e w17 ⟨rfl, n17, hw17⟩
  have HQ2 := Lib.hid (show Kd.C Kd.string w17 A2 b.length b by rw [hw17]; exact Kd.C_below HP2.out (bdrewN (Below.refl _ _) n17))
  have hbn : Below w.heap.size w w17 := by rw [hw17]; exact bdrewN hbm n17
  clear HP1 HP2 hbm hw17
  rw [sameB_self]
  go_wp2_with fail
  refine (rsame_calls A2 c2 b B d b _ HQ2.out hc2 (Kd.C_below HR2.out hbn) hd (by omega)).mono ?_
  rintro e w18 ⟨rfl, n18, hw18⟩

  rw [sameB_self]
  go_wp2_with fail
  go_ret
  exact ⟨rfl, by first | exact bdrewN hbn n18 | (rw [hw18]; exact bdrewN hbn n18)⟩
end Go.Proofs.Ytdhchmonmbppmaa.G
