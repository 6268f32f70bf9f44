/- The law PathsOnce: it returns true. -/
import Derived.Test.YtdhchmonmbppmaaDoorCmp
import Derived.Test.YtdhchmonmbppmaaDoorLNormal
namespace Go.Proofs.YtdhchmonmbppmaaDoor.G
open Go.RowKit Go.Lib Go.Proofs.YtdhchmonmbppmaaDoorW.PrintWords Go.Proofs.YtdhchmonmbppmaaDoorW.PrintLast
set_option linter.unusedVariables false

theorem nil_C (W : World) : Kd.C Kd.string W none ([] : List ByteArray).length [] := Kd.C_of_reads (d := ByteArray.empty) (h1 := fun _ => rfl) ⟨rfl, by simp, fun h => absurd h (by simp)⟩
theorem normR_right_length {a : List ByteArray} (h : rightB a = true) : a.length ≤ 1024 := by
  have h1 := rightB_sum h
  have h2 := sumP_len a
  omega
set_option maxHeartbeats 8000000 in
set_option maxRecDepth 100000 in
theorem lonce_calls (A : Option Addr) (c : Nat) (a : List ByteArray) (B : Option Addr) (d : Nat) (b : List ByteArray) (s : ByteArray) (w : World) (hr : Kd.C Kd.string w A a.length a) (hc : a.length ≤ c) (hl : a.length ≤ 1048576) (hs : sumP a ≤ 2097152)
    (hr2 : Kd.C Kd.string w B b.length b) (hd : b.length ≤ d) (hl2 : b.length ≤ 1048576) (hs2 : sumP b ≤ 2097152) :
    Calls Tryd.prog 4 #[.slice A a.length c, .slice B b.length d, .string s] w fun e w' => e = .returned (.bool true) ∧ Below w.heap.size w w' := by
  have HR := Lib.hid hr
  have HR2 := Lib.hid hr2
  clear hr hr2
  go_enter Tryd.func4, Tryd.ntmps4
  go_wp2_with fail
  refine (begins_calls _).mono ?_
  rintro e w1 ⟨rfl, hb⟩
  go_wp2_with fail
  refine (normal_calls A c a s _ (Kd.C_below HR.out hb) hc (by omega) (by omega)).mono ?_
  rintro e w2 ⟨v2, rfl, ho, hb2⟩
  have hbb := bstep hb hb.size hb2
  clear hb hb2
  rcases normR_cases a s with hok | ⟨e1, e2, e3⟩
  · have hq := norm_right hok
    have hnr := normR_of hok
    generalize (partsL s).foldl stepAt (startL a s) = q at *
    generalize dirB ((partsL s).getLastD ⟨#[]⟩) = dir at *
    rw [hnr] at ho ⊢
    obtain ⟨A2, c2, rfl, hc2, hC2⟩ := Kd.R_reads ho
    have HC2 := Lib.hid hC2
    have hql := normR_right_length hq
    have hqs := rightB_sum hq
    clear ho hC2
    have hpos : 0 < s.size := by
      rcases Nat.eq_zero_or_pos s.size with h | h
      · have : s.toList = [] := by rw [Lib.toList_data]; exact List.length_eq_zero_iff.1 (by rw [← Lib.size_eq]; exact h)
        have h2 := hok.some
        rw [this] at h2
        cases h2
      · exact h
    obtain ⟨b0, hb0⟩ : ∃ b0, s[0]'hpos = b0 := ⟨_, rfl⟩
    have hhead : s.data.toList.head? = some b0 := by rw [List.head?_eq_getElem?, List.getElem?_eq_getElem (by rw [← Lib.size_eq]; exact hpos), ← hb0]; rfl
    have hp0 : (0 : Int) < (s.size : Int) := by omega
    go_wp2_with fail
    refine (right_calls A2 c2 q _ HC2.out hc2 (by omega) (by omega)).mono ?_
    rw [hq]
    rintro e w3 ⟨rfl, hb3⟩
    have HD1 := Lib.hid (Kd.C_below HC2.out hb3)
    have hbc := bstep hbb hbb.size hb3
    clear HC2 hbb hb3
    go_wp2_with fail
    have HPr := print_calls A2 c2 q _ HD1.out hc2 (by omega) (by omega)
    have hprint : printR q = (textL q, 0) := by rw [printR, hq]; rfl
    rw [hprint] at HPr
    refine HPr.mono ?_
    rintro e w4 ⟨rfl, hb4⟩
    have HD2 := Lib.hid (Kd.C_below HD1.out hb4)
    have hbd := bstep hbc hbc.size hb4
    clear HD1 hbc hb4 HPr hprint
    obtain ⟨S, hS⟩ : ∃ S : ByteArray, (⟨(textL q).toArray⟩ : ByteArray) = S := ⟨_, rfl⟩
    have hS1 : (S.size : Int) = sizeP q := by rw [← hS, size_mk, textL_len]
    have hS2 : sizeP q ≤ 1024 := (right_iff.1 hq).1
    have hS3 : 1 ≤ sizeP q := by unfold sizeP; omega
    have hSpos : 0 < S.size := by omega
    have hSb : S[0]'hSpos = 47 := by
      have h1 : S.data.toList.head? = some 47 := by rw [← hS, data_mk]; exact textL_head q
      rw [List.head?_eq_getElem?, List.getElem?_eq_getElem (by rw [← Lib.size_eq]; exact hSpos)] at h1
      injection h1
    have hSz1 : ¬ (S.size : Int) < 1 := by omega
    have hSz2 : ¬ 1024 < (S.size : Int) := by omega
    have hSz3 : (0 : Int) < (S.size : Int) := by omega
    rw [hS]
    go_wp2_with fail
    refine (right_calls B d b _ (Kd.C_below HR2.out hbd) hd (by omega) (by omega)).mono ?_
    rintro e w5 ⟨rfl, hb5⟩
    have HE1 := Lib.hid (Kd.C_below HD2.out hb5)
    have hbe := bstep hbd hbd.size hb5
    clear HD2 hbd hb5
    cases hrb : rightB b
    · go_wp2_with fail
      refine (normal_calls none 0 ([] : List ByteArray) S _ (nil_C _) (by simp) (by first | omega | simp) (by first | omega | decide)).mono ?_
      rintro e w6 ⟨v6, rfl, ho, hb6⟩
      obtain ⟨hq1, hq2⟩ := once_text hq (show rightB [] = true by decide)
      rw [hS] at hq1 hq2
      rw [hq1] at ho
      rw [hq2]
      obtain ⟨A6, c6, rfl, hc6, hC6⟩ := Kd.R_reads ho
      have HC6 := Lib.hid hC6
      have HF1 := Lib.hid (Kd.C_below HE1.out hb6)
      have hbf := bstep hbe hbe.size hb6
      clear ho hC6 HE1 hbe hb6 hq1 hq2
      generalize (normR ([] : List ByteArray) S).2.1 = dd at *
      go_wp2_with fail
      refine (rsame_calls A6 c6 q A2 c2 q _ HC6.out hc6 HF1.out hc2 (by omega)).mono ?_
      rintro e w7 ⟨rfl, n7, hw7⟩
      have HG1 : Hid (Kd.C Kd.string w7 A2 q.length q) := Lib.hid (by rw [hw7]; exact Kd.C_below HF1.out (bdrewN (Below.refl _ _) n7))
      have hbg : Below w.heap.size w w7 := by rw [hw7]; exact bdrewN hbf n7
      clear HC6 HF1 hbf hw7
      rw [show sameB q q = true by simp [sameB]]
      cases h47 : (b0 == 47)
      · have hne : ((b0.toNat : Int) != 47) = true := by
          rw [bne_iff_ne]; intro h; have : b0 = 47 := UInt8.toNat_inj.1 (by exact_mod_cast h); rw [this] at h47; cases h47
        go_wp2_with fail
        go_ret
        exact ⟨rfl, hbg⟩
      · have hne : ((b0.toNat : Int) != 47) = false := by
          have : b0 = 47 := by simpa using h47
          rw [this]; rfl
        have hN2 : normR ([] : List ByteArray) s = (q, dir, 0) := by
          rw [once_slash hok (by rw [hhead, show b0 = 47 by simpa using h47]) (show rightB [] = true by decide), hnr]
        go_wp2_with fail
        refine (normal_calls none 0 ([] : List ByteArray) s _ (nil_C _) (by simp) (by first | omega | simp) (by first | omega | decide)).mono ?_
        rw [hN2]
        rintro e w8 ⟨v8, rfl, ho, hb8⟩
        obtain ⟨A8, c8, rfl, hc8, hC8⟩ := Kd.R_reads ho
        have HC8 := Lib.hid hC8
        have HH1 := Lib.hid (Kd.C_below HG1.out hb8)
        have hbh := bstep hbg hbg.size hb8
        clear ho hC8 HG1 hbg hb8
        go_wp2_with fail
        refine (rsame_calls A8 c8 q A2 c2 q _ HC8.out hc8 HH1.out hc2 (by omega)).mono ?_
        rintro e w9 ⟨rfl, n9, hw9⟩
        have hbi := bdrewN hbh n9
        rw [show sameB q q = true by simp [sameB]]
        go_wp2_with fail
        go_ret
        exact ⟨rfl, by first | exact hbi | (rw [hw9]; exact hbi)⟩
    · go_wp2_with fail
      refine (normal_calls B d b S _ (Kd.C_below HR2.out hbe) hd (by first | omega | simp) (by first | omega | decide)).mono ?_
      rintro e w6 ⟨v6, rfl, ho, hb6⟩
      obtain ⟨hq1, hq2⟩ := once_text hq hrb
      rw [hS] at hq1 hq2
      rw [hq1] at ho
      rw [hq2]
      obtain ⟨A6, c6, rfl, hc6, hC6⟩ := Kd.R_reads ho
      have HC6 := Lib.hid hC6
      have HF1 := Lib.hid (Kd.C_below HE1.out hb6)
      have hbf := bstep hbe hbe.size hb6
      clear ho hC6 HE1 hbe hb6 hq1 hq2
      generalize (normR b S).2.1 = dd at *
      go_wp2_with fail
      refine (rsame_calls A6 c6 q A2 c2 q _ HC6.out hc6 HF1.out hc2 (by omega)).mono ?_
      rintro e w7 ⟨rfl, n7, hw7⟩
      have HG1 : Hid (Kd.C Kd.string w7 A2 q.length q) := Lib.hid (by rw [hw7]; exact Kd.C_below HF1.out (bdrewN (Below.refl _ _) n7))
      have hbg : Below w.heap.size w w7 := by rw [hw7]; exact bdrewN hbf n7
      clear HC6 HF1 hbf hw7
      rw [show sameB q q = true by simp [sameB]]
      cases h47 : (b0 == 47)
      · have hne : ((b0.toNat : Int) != 47) = true := by
          rw [bne_iff_ne]; intro h; have : b0 = 47 := UInt8.toNat_inj.1 (by exact_mod_cast h); rw [this] at h47; cases h47
        go_wp2_with fail
        go_ret
        exact ⟨rfl, hbg⟩
      · have hne : ((b0.toNat : Int) != 47) = false := by
          have : b0 = 47 := by simpa using h47
          rw [this]; rfl
        have hN2 : normR b s = (q, dir, 0) := by
          rw [once_slash hok (by rw [hhead, show b0 = 47 by simpa using h47]) hrb, hnr]
        go_wp2_with fail
        refine (normal_calls B d b s _ (Kd.C_below HR2.out hbg) hd (by first | omega | simp) (by first | omega | decide)).mono ?_
        rw [hN2]
        rintro e w8 ⟨v8, rfl, ho, hb8⟩
        obtain ⟨A8, c8, rfl, hc8, hC8⟩ := Kd.R_reads ho
        have HC8 := Lib.hid hC8
        have HH1 := Lib.hid (Kd.C_below HG1.out hb8)
        have hbh := bstep hbg hbg.size hb8
        clear ho hC8 HG1 hbg hb8
        go_wp2_with fail
        refine (rsame_calls A8 c8 q A2 c2 q _ HC8.out hc8 HH1.out hc2 (by omega)).mono ?_
        rintro e w9 ⟨rfl, n9, hw9⟩
        have hbi := bdrewN hbh n9
        rw [show sameB q q = true by simp [sameB]]
        go_wp2_with fail
        go_ret
        exact ⟨rfl, by first | exact hbi | (rw [hw9]; exact hbi)⟩
  · rw [e1] at ho
    rw [e2]
    obtain ⟨A2, c2, rfl, hc2, hC2⟩ := Kd.R_reads ho
    generalize (normR a s).2.2 = k at *
    clear ho hC2
    rcases e3 with rfl | rfl
    · go_wp2_with fail
      go_ret
      exact ⟨rfl, hbb⟩
    · go_wp2_with fail
      go_ret
      exact ⟨rfl, hbb⟩
end Go.Proofs.YtdhchmonmbppmaaDoor.G
