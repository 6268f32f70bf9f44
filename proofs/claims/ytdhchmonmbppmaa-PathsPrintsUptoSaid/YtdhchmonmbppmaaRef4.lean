/- The reference's Relative. -/
import Derived.Test.YtdhchmonmbppmaaRef3
namespace Go.Proofs.Ytdhchmonmbppmaa.G
open Go.RowKit Go.Lib Go.Proofs.YtdhchmonmbppmaaW.PrintWords Go.Proofs.YtdhchmonmbppmaaW.PrintLast
set_option linter.unusedVariables false

def headL (l : List ByteArray) : List UInt8 := (l.map fun s => s.data.toList ++ [47]).flatten
theorem headL_append (a b : List ByteArray) : headL (a ++ b) = headL a ++ headL b := by simp [headL]
theorem headL_one (x : ByteArray) : headL [x] = x.data.toList ++ [47] := by simp [headL]
theorem headL_len (l : List ByteArray) : ((headL l).length : Int) = sumP l := by
  induction l with
  | nil => rfl
  | cons s l ih =>
    have hl : s.data.toList.length = s.size := (Lib.size_eq s).symm
    simp only [headL, sumP, List.map_cons, List.flatten_cons, List.length_append, List.length_cons, List.length_nil, List.sum_cons] at ih ⊢
    omega
theorem headL_join {l : List ByteArray} (h : l ≠ []) : headL l = joinL l [47] ++ [47] := by
  induction l with
  | nil => exact absurd rfl h
  | cons s l ih =>
    cases l with
    | nil => simp [headL, joinL, Lib.join_cons, joinTail]
    | cons t l =>
      have := ih (by simp)
      rw [show s :: t :: l = [s] ++ (t :: l) from rfl, headL_append, this, headL_one]
      simp [joinL, Lib.join_cons, joinTail]
theorem headL_nil {l : List ByteArray} : (headL l = []) ↔ l = [] := by
  constructor
  · intro h
    have := headL_len l
    have h2 := sumP_len l
    rw [h] at this
    exact List.length_eq_zero_iff.1 (by simp at this; omega)
  · rintro rfl; rfl

set_option maxHeartbeats 4000000 in
theorem rrel_no (A : Option Addr) (c : Nat) (a : List ByteArray) (B : Option Addr) (d : Nat) (p : List ByteArray) (w : World) (hr : Kd.C Kd.string w A a.length a) (hc : a.length ≤ c) (hl : a.length ≤ 4398046511104) (hs : sumP a ≤ 140737488355328)
    (hr2 : Kd.C Kd.string w B p.length p) (hd : p.length ≤ d) (hl2 : p.length ≤ 4398046511104) (hs2 : sumP p ≤ 140737488355328) (hR : (rightB a && rightB p) = false) :
    Calls Try.prog 12 #[.slice A a.length c, .slice B p.length d] w fun e w' => e = .returned (.tuple #[.string ⟨#[]⟩, .int .i64 20]) ∧ ∃ n, w' = w.drewN n := by
  have H1 := Lib.hid (fun W h => rright_calls A c a W h hc (by omega) (by omega))
  have H2 := Lib.hid (fun W h => rright_calls B d p W h hd (by omega) (by omega))
  have HR := Lib.hid hr
  have HR2 := Lib.hid hr2
  clear hr hr2 hs hs2
  generalize rightB a = ba at *
  generalize rightB p = bp at *
  go_enter Try.func12, Try.ntmps12
  go_wp2_with fail
  refine (H1.out _ HR.out).mono ?_
  rintro e w1 ⟨rfl, hw⟩
  rw [hw]
  go_wp2_with fail
  refine (H2.out _ HR2.out).mono ?_
  rintro e w2 ⟨rfl, hw2⟩
  rw [hw2]
  cases ba
  · go_wp2_with fail
    go_ret2
    exact ⟨rfl, 0, rfl⟩
  · cases bp
    · go_wp2_with fail
      go_ret2
      exact ⟨rfl, 0, rfl⟩
    · cases hR

set_option maxHeartbeats 8000000 in
set_option maxRecDepth 100000 in
theorem rrel_yes (A : Option Addr) (c : Nat) (a : List ByteArray) (B : Option Addr) (d : Nat) (p : List ByteArray) (w : World) (hr : Kd.C Kd.string w A a.length a) (hc : a.length ≤ c)
    (hr2 : Kd.C Kd.string w B p.length p) (hd : p.length ≤ d) (h1 : rightB a = true) (h2 : rightB p = true) (R : List UInt8 × Int)
    (hR : R = if relP a p = [] then ([46], 0) else if (joinL (relP a p) [47]).length ≤ 1024 then (joinL (relP a p) [47], 0) else ([], 4)) :
    Calls Try.prog 12 #[.slice A a.length c, .slice B p.length d] w fun e w' => e = .returned (.tuple #[.string ⟨R.1.toArray⟩, .int .i64 R.2]) ∧ ∃ n, w' = w.drewN n := by
  have s1 := rightB_sum h1
  have s2 := rightB_sum h2
  have hs := relP_sum h1 h2
  have la := sumP_len a
  have lp := sumP_len p
  have H1 := Lib.hid (fun W h => rright_calls A c a W h hc (by omega) (by omega))
  have H2 := Lib.hid (fun W h => rright_calls B d p W h hd (by omega) (by omega))
  have H3 := Lib.hid (fun W h h' => rboth_calls A c a B d p W h hc h' hd (by omega))
  rw [h1] at H1
  rw [h2] at H2
  have HR := Lib.hid hr
  have HR2 := Lib.hid hr2
  have hk1 := both_le_left a p
  have hk2 := both_le_right a p
  have HP := Lib.hid (show relP a p = List.replicate (a.length - both a p) dots ++ p.drop (both a p) from rfl)
  have HQ := Lib.hid hR
  clear hr hr2 hR h1 h2
  generalize relP a p = L at *
  generalize both a p = k at *
  have HLen := Lib.hid (headL_len L)
  go_enter Try.func12, Try.ntmps12
  go_wp2_with fail
  refine (H1.out _ HR.out).mono ?_
  rintro e w1 ⟨rfl, hw⟩
  rw [hw]
  clear hw
  go_wp2_with fail
  refine (H2.out _ HR2.out).mono ?_
  rintro e w2 ⟨rfl, hw2⟩
  rw [hw2]
  clear hw2
  go_wp2_with fail
  refine (H3.out _ HR.out HR2.out).mono ?_
  rintro e w3 ⟨rfl, n3, rfl⟩
  have HR4 := Lib.hid (Kd.C_below HR2.out (bdrewN (B := w.heap.size) (Below.refl _ _) n3))
  go_wp2_with fail
  go_loop [9, 10] (fun s i => ∃ (j : Nat) (S : ByteArray), j ≤ a.length - k ∧ i = .int .i64 ((k + j : Nat) : Int) ∧ s = .string S ∧ Hid (S.data.toList = headL (List.replicate j dots)) ∧ S.size = 3 * j) (fun _ i => a.length - (RowKit.intOf i).toNat)
  case atStart => exact ⟨0, ⟨#[]⟩, by omega, rfl, rfl, Lib.hid rfl, rfl⟩
  case round =>
    obtain ⟨j, S, hj, rfl, rfl, HM, hm⟩ := hrel
    by_cases hlt : k + j < a.length
    · have HS := Lib.hid (show (S ++ ⟨#[46, 46, 47]⟩).data.toList = headL (List.replicate (j + 1) dots) by rw [data_append, List.replicate_succ', headL_append, headL_one, HM.out]; rfl)
      have hm2 : (S ++ ⟨#[46, 46, 47]⟩).size = 3 * (j + 1) := by rw [ByteArray.size_append, hm]; show 3 * j + 3 = _; omega
      have hm4 : S.size ≤ 1048576 := by omega
      go_wp2
      go_round
      case rel => exact ⟨j + 1, _, by omega, by go_num, rfl, HS, hm2⟩
      case measure => simp [RowKit.intOf]; omega
    · obtain rfl : j = a.length - k := by omega
      have hm4 : S.size ≤ 1048576 := by omega
      go_wp2
      obtain ⟨n, hn⟩ : ∃ n, a.length - k = n := ⟨_, rfl⟩
      rw [hn] at HM HP hm hj
      clear hlt
      have HM1 := Lib.hid HM.out
      clear HM
      go_loop [9, 11] (fun s i => ∃ (m : Nat) (S : ByteArray), k ≤ m ∧ m ≤ p.length ∧ i = .int .i64 m ∧ s = .string S ∧ Hid (S.data.toList = headL (List.replicate n dots ++ (p.drop k).take (m - k))) ∧ S.size ≤ 4096) (fun _ i => p.length - (RowKit.intOf i).toNat)
      case atStart => exact ⟨k, S, by omega, by omega, rfl, rfl, Lib.hid (by rw [Nat.sub_self, List.take_zero, List.append_nil]; exact HM1.out), by omega⟩
      case round =>
        obtain ⟨m, S, hkm, hm1, rfl, rfl, HM, hm⟩ := hrel
        by_cases hlt : m < p.length
        · obtain ⟨ad, rfl, hx⟩ := Kd.at_string HR4.out (m : Int) (by omega) (by omega)
          rw [Int.toNat_natCast] at hx
          have he : rdOf ByteArray.empty p (m : Int) = p[m] := by simp [rdOf, hlt]
          rw [he] at hx
          have hdt : (p.drop k).take (m + 1 - k) = (p.drop k).take (m - k) ++ [p[m]] := by
            rw [show m + 1 - k = (m - k) + 1 by omega, List.take_succ_eq_append_getElem (by rw [List.length_drop]; omega)]
            congr 2
            rw [List.getElem_drop]
            congr 1
            omega
          have HS : Hid ((S ++ p[m] ++ ⟨#[47]⟩).data.toList = headL (List.replicate n dots ++ (p.drop k).take (m + 1 - k))) :=
            Lib.hid (by rw [hdt, ← List.append_assoc, headL_append, data_append, data_append, HM.out, headL_one, List.append_assoc])
          have hsz : (S ++ p[m] ++ ⟨#[47]⟩).size ≤ 4096 := by
            have e1 : ((S ++ p[m] ++ ⟨#[47]⟩).size : Int) = (headL (List.replicate n dots ++ (p.drop k).take (m + 1 - k))).length := by rw [← HS.out, Lib.size_eq]
            rw [headL_len, sumP_append] at e1
            have e2 := sumP_take_le (p.drop k) (m + 1 - k)
            have e3 := congrArg sumP HP.out
            rw [sumP_append] at e3
            omega
          have hsx : p[m].size ≤ 4096 := by rw [ByteArray.size_append, ByteArray.size_append] at hsz; omega
          clear he hdt
          generalize p[m] = s at *
          go_wp2
          go_round
          case rel => exact ⟨m + 1, _, by omega, by omega, by go_num, rfl, HS, hsz⟩
          case measure => simp [RowKit.intOf]; omega
        · obtain rfl : m = p.length := by omega
          have HM2 := HM.out
          rw [List.take_of_length_le (by rw [List.length_drop]; omega), ← HP.out] at HM2
          have hb : (S.toList == []) = decide (L = []) := by
            rw [Lib.toList_data, HM2, Bool.eq_iff_iff, beq_iff_eq, decide_eq_true_iff]; exact headL_nil
          have HM3 := Lib.hid HM2
          have HB := Lib.hid hb
          clear hb HM2 HM HM1 HP
          by_cases hL : L = []
          · have hb := HB.out
            rw [decide_eq_true hL] at hb
            have HQ2 := HQ.out
            rw [if_pos hL] at HQ2
            have HQ3 := Lib.hid HQ2
            clear HQ HQ2 HB hL
            go_wp2
            go_ret2
            exact ⟨by rw [HQ3.out]; rfl, n3, rfl⟩
          · have hb := HB.out
            rw [decide_eq_false hL] at hb
            have HQ2 := HQ.out
            rw [if_neg hL] at HQ2
            have hjo := headL_join hL
            rw [← HM3.out] at hjo
            have hsz : S.size = (joinL L [47]).length + 1 := by rw [Lib.size_eq, hjo]; simp
            have HX : Hid (S.extract 0 (S.size - 1) = ⟨(joinL L [47]).toArray⟩) := Lib.hid (by
              apply mk_of_data
              rw [ByteArray.data_extract, Array.toList_extract, hsz, hjo]
              simp)
            clear HQ HB hL HM3 hjo
            generalize joinL L [47] = J at *
            by_cases hlen : J.length ≤ 1024
            · rw [if_pos hlen] at HQ2
              have HQ3 := Lib.hid HQ2
              have h0 : 1 ≤ S.size := by omega
              have h1 : S.size ≤ 1025 := by omega
              clear HQ2 hsz hlen
              go_wp2
              go_ret2
              exact ⟨by rw [HQ3.out, ← HX.out]; rfl, n3, rfl⟩
            · rw [if_neg hlen] at HQ2
              have HQ3 := Lib.hid HQ2
              have h0 : 1 ≤ S.size := by omega
              have h1 : 1025 < S.size := by omega
              clear HQ2 hsz hlen
              go_wp2
              go_ret2
              exact ⟨by rw [HQ3.out]; rfl, n3, rfl⟩
theorem rrel_calls (A : Option Addr) (c : Nat) (a : List ByteArray) (B : Option Addr) (d : Nat) (p : List ByteArray) (w : World) (hr : Kd.C Kd.string w A a.length a) (hc : a.length ≤ c) (hl : a.length ≤ 4398046511104) (hs : sumP a ≤ 140737488355328)
    (hr2 : Kd.C Kd.string w B p.length p) (hd : p.length ≤ d) (hl2 : p.length ≤ 4398046511104) (hs2 : sumP p ≤ 140737488355328) :
    Calls Try.prog 12 #[.slice A a.length c, .slice B p.length d] w fun e w' => e = .returned (.tuple #[.string ⟨(relR a p).1.toArray⟩, .int .i64 (relR a p).2]) ∧ ∃ n, w' = w.drewN n := by
  cases hR : rightB a && rightB p
  · have h := rrel_no A c a B d p w hr hc hl hs hr2 hd hl2 hs2 hR
    rw [relR, hR]
    exact h
  · have h := hR
    rw [Bool.and_eq_true] at h
    exact rrel_yes A c a B d p w hr hc hr2 hd h.1 h.2 _ (by rw [relR, hR]; rfl)
end Go.Proofs.Ytdhchmonmbppmaa.G
