/- The law PathsNormal: it returns true. -/
import Derived.Test.YtdhchmonmbppmaaDoorRNormal
namespace Go.Proofs.YtdhchmonmbppmaaDoor.G
open Go.RowKit Go.Lib Go.Proofs.YtdhchmonmbppmaaDoorW.PrintWords Go.Proofs.YtdhchmonmbppmaaDoorW.PrintLast
set_option linter.unusedVariables false

theorem normR_length (a : List ByteArray) (s : ByteArray) : (normR a s).1.length ≤ a.length + 1025 := by
  have h1 := foldl_length (partsL s) (startL a s)
  have h2 := partsL_length s
  have h3 : (startL a s).length ≤ a.length := by unfold startL; split <;> simp
  unfold normR
  split
  · split
    · split
      · simp
      · split
        · simp
        · split
          · show ((partsL s).foldl stepAt (startL a s)).length ≤ _
            omega
          · simp
    · simp
  · simp

set_option maxHeartbeats 8000000 in
set_option maxRecDepth 100000 in
theorem lnormal_calls (A : Option Addr) (c : Nat) (a : List ByteArray) (s : ByteArray) (w : World) (hr : Kd.C Kd.string w A a.length a) (hc : a.length ≤ c) (hl : a.length ≤ 1048576) (hs : sumP a ≤ 2097152) :
    Calls Tryd.prog 3 #[.slice A a.length c, .string s] w fun e w' => e = .returned (.bool true) ∧ Below w.heap.size w w' := by
  have HR := Lib.hid hr
  have hnl := normR_length a s
  clear hr
  go_enter Tryd.func3, Tryd.ntmps3
  go_wp2_with fail
  refine (rcopy_calls A c a _ HR.out hc (by omega)).mono ?_
  rintro e w1 ⟨v1, rfl, ho, hb⟩
  obtain ⟨A1, c1, rfl, hc1, hC1⟩ := Kd.R_reads ho
  have HC1 := Lib.hid hC1
  clear ho hC1
  go_wp2_with fail
  refine (normal_calls A1 c1 a s _ HC1.out hc1 (by omega) (by omega)).mono ?_
  rintro e w2 ⟨v2, rfl, ho, hb2⟩
  obtain ⟨A2, c2, rfl, hc2, hC2⟩ := Kd.R_reads ho
  have HC2 := Lib.hid hC2
  have HD1 := Lib.hid (Kd.C_below HC1.out hb2)
  have hbb := bstep hb hb.size hb2
  clear ho hC2 HC1 hb hb2
  have HN := Lib.hid (fun W h => rnormal_calls A c a s W h hc (by omega) (by omega))
  generalize (normR a s).1 = q at *
  generalize (normR a s).2.1 = b at *
  generalize (normR a s).2.2 = k at *
  go_wp2_with fail
  refine (HN.out _ (Kd.C_below HR.out hbb)).mono ?_
  rintro e w3 ⟨v3, rfl, ho, hb3⟩
  obtain ⟨A3, c3, rfl, hc3, hC3⟩ := Kd.R_reads ho
  have HC3 := Lib.hid hC3
  have HD2 := Lib.hid (Kd.C_below HC2.out hb3)
  have HE1 := Lib.hid (Kd.C_below HD1.out hb3)
  have hbc := bstep hbb hbb.size hb3
  clear ho hC3 HD1 HC2 hbb hb3 HN
  have h1 : (b == b) = true := by simp
  have h2 : (k == k) = true := by simp
  go_wp2_with fail
  refine (rsame_calls A2 c2 q A3 c3 q _ HD2.out hc2 HC3.out hc3 (by omega)).mono ?_
  rintro e w4 ⟨rfl, n4, hw4⟩
  have HF1 := Lib.hid (show Kd.C Kd.string w4 A1 a.length a by rw [hw4]; exact Kd.C_below HE1.out (bdrewN (Below.refl _ _) n4))
  have hbd : Below w.heap.size w w4 := by rw [hw4]; exact bdrewN hbc n4
  clear HE1 HD2 HC3 hbc hw4
  rw [show sameB q q = true by simp [sameB]]
  go_wp2_with fail
  refine (rsame_calls A1 c1 a A c a _ HF1.out hc1 (Kd.C_below HR.out hbd) hc (by omega)).mono ?_
  rintro e w5 ⟨rfl, n5, hw5⟩
  have hbe : Below w.heap.size w w5 := by rw [hw5]; exact bdrewN hbd n5
  rw [show sameB a a = true by simp [sameB]]
  go_wp2_with fail
  go_ret
  exact ⟨rfl, by first | exact hbe | exact bdrewN hbd n5⟩
end Go.Proofs.YtdhchmonmbppmaaDoor.G
