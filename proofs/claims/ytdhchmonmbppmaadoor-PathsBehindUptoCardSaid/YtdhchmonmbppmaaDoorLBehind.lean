/- The law PathsBehind: it returns true. -/
import Derived.Test.YtdhchmonmbppmaaDoorLOnce
namespace Go.Proofs.YtdhchmonmbppmaaDoor.G
open Go.RowKit Go.Lib Go.Proofs.YtdhchmonmbppmaaDoorW.PrintWords Go.Proofs.YtdhchmonmbppmaaDoorW.PrintLast
set_option linter.unusedVariables false

set_option maxHeartbeats 8000000 in
set_option maxRecDepth 100000 in
theorem lbehind_calls (A : Option Addr) (c : Nat) (a : List ByteArray) (s t : ByteArray) (w : World) (hr : Kd.C Kd.string w A a.length a) (hc : a.length ≤ c) (hl : a.length ≤ 1048576) (hs : sumP a ≤ 2097152) (hss : s.size ≤ 1048576) (hts : t.size ≤ 1048576) :
    Calls Tryd.prog 5 #[.slice A a.length c, .string s, .string t] w fun e w' => e = .returned (.bool true) ∧ Below w.heap.size w w' := by
  have HR := Lib.hid hr
  clear hr
  go_enter Tryd.func5, Tryd.ntmps5
  go_wp2_with fail
  refine (begins_calls _).mono ?_
  rintro e w1 ⟨rfl, hb⟩
  go_wp2_with fail
  refine (normal_calls A c a s _ (Kd.C_below HR.out hb) hc (by omega) (by omega)).mono ?_
  rintro e w2 ⟨v2, rfl, ho, hb2⟩
  have hbb := bstep hb hb.size hb2
  clear hb hb2
  rcases normR_cases a s with hok | ⟨e1, e2, e3⟩
  · have hq := norm_right hok
    have hnr := normR_of hok
    have hbehind := fun h1 h2 h3 => behind_law (t := t) hok h1 h2 h3
    have hlong := fun h => behind_long (t := t) hok h
    generalize (partsL s).foldl stepAt (startL a s) = q at *
    generalize dirB ((partsL s).getLastD ⟨#[]⟩) = dir at *
    rw [hnr] at ho hbehind ⊢
    obtain ⟨A2, c2, rfl, hc2, hC2⟩ := Kd.R_reads ho
    have HC2 := Lib.hid hC2
    have hql := normR_right_length hq
    have hqs := rightB_sum hq
    clear ho hC2
    cases he : t.toList.isEmpty
    · have hpos : 0 < t.size := by
        rcases Nat.eq_zero_or_pos t.size with h | h
        · have : t.toList = [] := by rw [Lib.toList_data]; exact List.length_eq_zero_iff.1 (by rw [← Lib.size_eq]; exact h)
          rw [this] at he
          cases he
        · exact h
      obtain ⟨b0, hb0⟩ : ∃ b0, t[0]'hpos = b0 := ⟨_, rfl⟩
      have hhead : t.data.toList.head? = some b0 := by rw [List.head?_eq_getElem?, List.getElem?_eq_getElem (by rw [← Lib.size_eq]; exact hpos), ← hb0]; rfl
      have hp0 : (0 : Int) < (t.size : Int) := by omega
      cases h47 : (b0 == 47)
      · have hne : ((b0.toNat : Int) == 47) = false := by
          rw [beq_eq_false_iff_ne]; intro h; have : b0 = 47 := UInt8.toNat_inj.1 (by exact_mod_cast h); rw [this] at h47; cases h47
        have hb47 : t.data.toList.head? ≠ some 47 := by
          rw [hhead]; intro h; injection h with h; rw [h] at h47; cases h47
        have hbe := hbehind he hb47
        clear hbehind h47 hb47 hhead hok hnr
        go_wp2_with fail
        refine (normal_calls A2 c2 q t _ HC2.out hc2 (by omega) (by omega)).mono ?_
        rintro e w3 ⟨v3, rfl, ho, hb3⟩
        obtain ⟨A3, c3, rfl, hc3, hC3⟩ := Kd.R_reads ho
        have HC3 := Lib.hid hC3
        have hbc := bstep hbb hbb.size hb3
        have hnl := normR_length q t
        clear ho hC3 hbb hb3 HC2
        have HN := Lib.hid (fun W h => normal_calls A c a (behindT s t) W h hc (by omega) (by omega))
        have HT : Hid (behindT s t = s ++ ⟨#[47]⟩ ++ t) := Lib.hid rfl
        by_cases hsz : s.size + 1 + t.size ≤ 1024
        · have hbe2 := hbe hsz
          have hz := normR_cases q t
          rw [hbe2] at HN
          clear hbe hlong hbe2
          generalize behindT s t = st at *
          generalize (normR q t).1 = r at *
          generalize (normR q t).2.1 = dd at *
          generalize (normR q t).2.2 = k at *
          have h1 : (dd == dd) = true := by simp
          go_wp2_with fail
          rw [← HT.out]
          refine (HN.out _ (Kd.C_below HR.out hbc)).mono ?_
          rintro e w4 ⟨v4, rfl, ho, hb4⟩
          obtain ⟨A4, c4, rfl, hc4, hC4⟩ := Kd.R_reads ho
          have HC4 := Lib.hid hC4
          have HD3 := Lib.hid (Kd.C_below HC3.out hb4)
          have hbd := bstep hbc hbc.size hb4
          clear ho hC4 hbc hb4 HC3 HN HT
          cases hk : (k == 0)
          · have hk2 : (k != 0) = true := by simp [bne, hk]
            go_wp2_with fail
            go_ret
            exact ⟨rfl, hbd⟩
          · have hk2 : (k != 0) = false := by simp [bne, hk]
            go_wp2_with fail
            refine (rsame_calls A3 c3 r A4 c4 r _ HD3.out hc3 HC4.out hc4 (by omega)).mono ?_
            rintro e w5 ⟨rfl, n5, hw5⟩
            have hbz := bdrewN hbd n5
            rw [show sameB r r = true by simp [sameB]]
            go_wp2_with fail
            go_ret
            exact ⟨rfl, by first | exact hbz | (rw [hw5]; exact hbz)⟩
        · have hbe2 := hlong hsz
          rw [hbe2] at HN
          clear hbe hlong hbe2
          generalize behindT s t = st at *
          generalize (normR q t).1 = r at *
          generalize (normR q t).2.1 = dd at *
          generalize (normR q t).2.2 = k at *
          generalize (normR a st).1 = r2 at *
          generalize (normR a st).2.1 = dd2 at *
          go_wp2_with fail
          rw [← HT.out]
          refine (HN.out _ (Kd.C_below HR.out hbc)).mono ?_
          rintro e w4 ⟨v4, rfl, ho, hb4⟩
          obtain ⟨A4, c4, rfl, hc4, hC4⟩ := Kd.R_reads ho
          have hbd := bstep hbc hbc.size hb4
          clear ho hC4 hbc hb4 HC3 HN HT
          have hsum : (1024 : Int) < (s.size : Int) + 1 + (t.size : Int) := by omega
          cases hk : (k != 0)
          · go_wp2_with fail
            go_ret
            exact ⟨rfl, hbd⟩
          · go_wp2_with fail
            go_ret
            exact ⟨rfl, hbd⟩
      · have hne : ((b0.toNat : Int) == 47) = true := by
          have : b0 = 47 := by simpa using h47
          rw [this]; rfl
        go_wp2_with fail
        go_ret
        exact ⟨rfl, hbb⟩
    · go_wp2_with fail
      go_ret
      exact ⟨rfl, hbb⟩
  · rw [e1] at ho
    rw [e2]
    obtain ⟨A2, c2, rfl, hc2, hC2⟩ := Kd.R_reads ho
    generalize (normR a s).2.2 = k at *
    clear ho hC2
    rcases e3 with rfl | rfl
    · go_wp2_with fail
      go_ret
      exact ⟨rfl, hbb⟩
    · go_wp2_with fail
      go_ret
      exact ⟨rfl, hbb⟩
end Go.Proofs.YtdhchmonmbppmaaDoor.G
