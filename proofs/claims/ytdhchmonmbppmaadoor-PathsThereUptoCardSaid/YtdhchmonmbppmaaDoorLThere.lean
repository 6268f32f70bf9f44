/- The law PathsThere: it returns true. -/
import Derived.Test.YtdhchmonmbppmaaDoorLOnce
namespace Go.Proofs.YtdhchmonmbppmaaDoor.G
open Go.RowKit Go.Lib Go.Proofs.YtdhchmonmbppmaaDoorW.PrintWords Go.Proofs.YtdhchmonmbppmaaDoorW.PrintLast
set_option linter.unusedVariables false

theorem mem_sum {x : ByteArray} {p : List ByteArray} (h : x ∈ p) : (x.size : Int) ≤ sumP p := by
  induction p with
  | nil => cases h
  | cons y p ih =>
    have h2 := sumP_nonneg p
    simp only [sumP, List.map_cons, List.sum_cons] at ih h2 ⊢
    rcases List.mem_cons.1 h with rfl | h
    · omega
    · have := ih h
      omega
theorem joinR_len' (l : List ByteArray) (name : ByteArray) : (joinR l name).1.length ≤ l.length + 1 := by
  unfold joinR
  split
  · split <;> simp
  · simp

set_option maxHeartbeats 8000000 in
set_option maxRecDepth 100000 in
theorem lthere_calls (A : Option Addr) (c : Nat) (a : List ByteArray) (B : Option Addr) (d : Nat) (p : List ByteArray) (w : World) (hr : Kd.C Kd.string w A a.length a) (hc : a.length ≤ c) (hl : a.length ≤ 1048576) (hs : sumP a ≤ 2097152)
    (hr2 : Kd.C Kd.string w B p.length p) (hd : p.length ≤ d) (hl2 : p.length ≤ 1048576) (hs2 : sumP p ≤ 2097152) :
    Calls Tryd.prog 6 #[.slice A a.length c, .slice B p.length d] w fun e w' => e = .returned (.bool true) ∧ Below w.heap.size w w' := by
  have HR := Lib.hid hr
  have HR2 := Lib.hid hr2
  clear hr hr2
  go_enter Tryd.func6, Tryd.ntmps6
  go_wp2_with fail
  refine (begins_calls _).mono ?_
  rintro e w1 ⟨rfl, hb⟩
  go_wp2_with fail
  refine (rel_calls A c a B d p _ (Kd.C_below HR.out hb) hc (by omega) (by omega) (Kd.C_below HR2.out hb) hd (by omega) (by omega)).mono ?_
  rintro e w2 ⟨rfl, hb2⟩
  have hbb := bstep hb hb.size hb2
  clear hb hb2
  by_cases hrr : rightB a = true ∧ rightB p = true
  · obtain ⟨hra, hrp0⟩ := hrr
    have hn := there_norm hra hrp0
    rcases rel_right hra hrp0 with hk | hk
    · obtain ⟨hn1, hn2⟩ := hn hk
      rw [hk]
      clear hk hn
      generalize (⟨(relR a p).1.toArray⟩ : ByteArray) = S at *
      go_wp2_with fail
      refine (normal_calls A c a S _ (Kd.C_below HR.out hbb) hc (by omega) (by omega)).mono ?_
      rw [hn1, hn2]
      rintro e w3 ⟨v3, rfl, ho, hb3⟩
      obtain ⟨A3, c3, rfl, hc3, hC3⟩ := Kd.R_reads ho
      have HC3 := Lib.hid hC3
      have hbc := bstep hbb hbb.size hb3
      clear ho hC3 hbb hb3
      generalize (normR a S).2.1 = dd at *
      go_wp2_with fail
      refine (rsame_calls A3 c3 p B d p _ HC3.out hc3 (Kd.C_below HR2.out hbc) hd (by omega)).mono ?_
      rintro e w4 ⟨rfl, n4, hw4⟩
      have hbt : Below w.heap.size w w4 := by rw [hw4]; exact bdrewN hbc n4
      clear HC3 hbc hw4
      rw [show sameB p p = true by simp [sameB]]
      go_wp2_with fail
      refine (parent_calls B d p _ (Kd.C_below HR2.out hbt) hd (by omega)).mono ?_
      rintro e u1 ⟨x1, rfl, ho, hbu⟩
      obtain ⟨A5, c5, rfl, hc5, hC5⟩ := Kd.R_reads ho
      have HC5 := Lib.hid hC5
      have hbv := bstep hbt hbt.size hbu
      clear ho hC5 hbt hbu
      cases hp0 : p.isEmpty
      · have hpne : p ≠ [] := by intro h; rw [h] at hp0; cases hp0
        have hW1 : withinB p p.dropLast = true := by unfold withinB; exact decide_eq_true (within_parent p)
        have hW2 : withinB p.dropLast p = false := by unfold withinB; exact decide_eq_false (not_within_parent hpne)
        have hls := mem_sum (last_mem hpne)
        have hjn := fun h => there_join h hpne
        have hul : p.dropLast.length ≤ p.length := by rw [List.length_dropLast]; omega
        have hus := sumP_dropLast p
        generalize p.dropLast = up at *
        generalize lastP p = last at *
        go_wp2_with fail
        refine (within_calls B d p A5 c5 up _ (Kd.C_below HR2.out hbv) hd HC5.out hc5 (by omega)).mono ?_
        rw [hW1]
        rintro e u2 ⟨rfl, m2, hu2⟩
        have HC6 : Hid (Kd.C Kd.string u2 A5 up.length up) := Lib.hid (by rw [hu2]; exact Kd.C_below HC5.out (bdrewN (Below.refl _ _) m2))
        have hbw : Below w.heap.size w u2 := by rw [hu2]; exact bdrewN hbv m2
        clear HC5 hbv hu2 hW1
        go_wp2_with fail
        refine (within_calls A5 c5 up B d p _ HC6.out hc5 (Kd.C_below HR2.out hbw) hd (by omega)).mono ?_
        rw [hW2]
        rintro e u3 ⟨rfl, m3, hu3⟩
        have HC7 : Hid (Kd.C Kd.string u3 A5 up.length up) := Lib.hid (by rw [hu3]; exact Kd.C_below HC6.out (bdrewN (Below.refl _ _) m3))
        have hbx : Below w.heap.size w u3 := by rw [hu3]; exact bdrewN hbw m3
        clear HC6 hbw hu3 hW2
        go_wp2_with fail
        refine (pjoin_calls A5 c5 up last _ HC7.out hc5 (by omega) (by omega) (by omega)).mono ?_
        rintro e u4 ⟨x4, rfl, ho, hb4⟩
        obtain ⟨A8, c8, rfl, hc8, hC8⟩ := Kd.R_reads ho
        have HC8 := Lib.hid hC8
        have hby := bstep hbx hbx.size hb4
        have hjl := joinR_len' up last
        clear ho hC8 hbx hb4 HC7
        go_wp2_with fail
        refine (right_calls B d p _ (Kd.C_below HR2.out hby) hd (by omega) (by omega)).mono ?_
        rintro e u5 ⟨rfl, hb5⟩
        have HC9 := Lib.hid (Kd.C_below HC8.out hb5)
        have hbz := bstep hby hby.size hb5
        clear HC8 hby hb5
        cases hrp : rightB p
        · go_wp2_with fail
          go_ret
          exact ⟨rfl, hbz⟩
        · have hj := hjn hrp
          first | rw [hj] at HC9 hc8 ⊢ | rw [hj] at HC9 hc8 | skip
          go_wp2_with fail
          refine (rsame_calls A8 c8 p B d p _ HC9.out hc8 (Kd.C_below HR2.out hbz) hd (by omega)).mono ?_
          rintro e u6 ⟨rfl, m6, hu6⟩
          have hbq := bdrewN hbz m6
          rw [show sameB p p = true by simp [sameB]]
          go_wp2_with fail
          go_ret
          exact ⟨rfl, by first | exact hbq | (rw [hu6]; exact hbq)⟩
      · have hpe : p = [] := List.isEmpty_iff.1 hp0
        have hpl : ((p.length : Int) == 0) = true := by rw [hpe]; rfl
        go_wp2_with fail
        go_ret
        exact ⟨by first | rfl | (rw [hpe]; rfl), hbv⟩
    · rw [hk]
      clear hk hn
      generalize (⟨(relR a p).1.toArray⟩ : ByteArray) = S at *
      have hbt := hbb
      go_wp2_with fail
      refine (parent_calls B d p _ (Kd.C_below HR2.out hbt) hd (by omega)).mono ?_
      rintro e u1 ⟨x1, rfl, ho, hbu⟩
      obtain ⟨A5, c5, rfl, hc5, hC5⟩ := Kd.R_reads ho
      have HC5 := Lib.hid hC5
      have hbv := bstep hbt hbt.size hbu
      clear ho hC5 hbt hbu
      cases hp0 : p.isEmpty
      · have hpne : p ≠ [] := by intro h; rw [h] at hp0; cases hp0
        have hW1 : withinB p p.dropLast = true := by unfold withinB; exact decide_eq_true (within_parent p)
        have hW2 : withinB p.dropLast p = false := by unfold withinB; exact decide_eq_false (not_within_parent hpne)
        have hls := mem_sum (last_mem hpne)
        have hjn := fun h => there_join h hpne
        have hul : p.dropLast.length ≤ p.length := by rw [List.length_dropLast]; omega
        have hus := sumP_dropLast p
        generalize p.dropLast = up at *
        generalize lastP p = last at *
        go_wp2_with fail
        refine (within_calls B d p A5 c5 up _ (Kd.C_below HR2.out hbv) hd HC5.out hc5 (by omega)).mono ?_
        rw [hW1]
        rintro e u2 ⟨rfl, m2, hu2⟩
        have HC6 : Hid (Kd.C Kd.string u2 A5 up.length up) := Lib.hid (by rw [hu2]; exact Kd.C_below HC5.out (bdrewN (Below.refl _ _) m2))
        have hbw : Below w.heap.size w u2 := by rw [hu2]; exact bdrewN hbv m2
        clear HC5 hbv hu2 hW1
        go_wp2_with fail
        refine (within_calls A5 c5 up B d p _ HC6.out hc5 (Kd.C_below HR2.out hbw) hd (by omega)).mono ?_
        rw [hW2]
        rintro e u3 ⟨rfl, m3, hu3⟩
        have HC7 : Hid (Kd.C Kd.string u3 A5 up.length up) := Lib.hid (by rw [hu3]; exact Kd.C_below HC6.out (bdrewN (Below.refl _ _) m3))
        have hbx : Below w.heap.size w u3 := by rw [hu3]; exact bdrewN hbw m3
        clear HC6 hbw hu3 hW2
        go_wp2_with fail
        refine (pjoin_calls A5 c5 up last _ HC7.out hc5 (by omega) (by omega) (by omega)).mono ?_
        rintro e u4 ⟨x4, rfl, ho, hb4⟩
        obtain ⟨A8, c8, rfl, hc8, hC8⟩ := Kd.R_reads ho
        have HC8 := Lib.hid hC8
        have hby := bstep hbx hbx.size hb4
        have hjl := joinR_len' up last
        clear ho hC8 hbx hb4 HC7
        go_wp2_with fail
        refine (right_calls B d p _ (Kd.C_below HR2.out hby) hd (by omega) (by omega)).mono ?_
        rintro e u5 ⟨rfl, hb5⟩
        have HC9 := Lib.hid (Kd.C_below HC8.out hb5)
        have hbz := bstep hby hby.size hb5
        clear HC8 hby hb5
        cases hrp : rightB p
        · go_wp2_with fail
          go_ret
          exact ⟨rfl, hbz⟩
        · have hj := hjn hrp
          first | rw [hj] at HC9 hc8 ⊢ | rw [hj] at HC9 hc8 | skip
          go_wp2_with fail
          refine (rsame_calls A8 c8 p B d p _ HC9.out hc8 (Kd.C_below HR2.out hbz) hd (by omega)).mono ?_
          rintro e u6 ⟨rfl, m6, hu6⟩
          have hbq := bdrewN hbz m6
          rw [show sameB p p = true by simp [sameB]]
          go_wp2_with fail
          go_ret
          exact ⟨rfl, by first | exact hbq | (rw [hu6]; exact hbq)⟩
      · have hpe : p = [] := List.isEmpty_iff.1 hp0
        have hpl : ((p.length : Int) == 0) = true := by rw [hpe]; rfl
        go_wp2_with fail
        go_ret
        exact ⟨by first | rfl | (rw [hpe]; rfl), hbv⟩
  · have hrel : relR a p = ([], 20) := by
      unfold relR
      rw [if_neg (by rw [Bool.and_eq_true]; exact hrr)]
    rw [hrel]
    clear hrel
    go_wp2_with fail
    refine (right_calls A c a _ (Kd.C_below HR.out hbb) hc (by omega) (by omega)).mono ?_
    rintro e w3 ⟨rfl, hb3⟩
    have hbc := bstep hbb hbb.size hb3
    clear hbb hb3
    cases hra : rightB a
    · have hbt := hbc
      go_wp2_with fail
      refine (parent_calls B d p _ (Kd.C_below HR2.out hbt) hd (by omega)).mono ?_
      rintro e u1 ⟨x1, rfl, ho, hbu⟩
      obtain ⟨A5, c5, rfl, hc5, hC5⟩ := Kd.R_reads ho
      have HC5 := Lib.hid hC5
      have hbv := bstep hbt hbt.size hbu
      clear ho hC5 hbt hbu
      cases hp0 : p.isEmpty
      · have hpne : p ≠ [] := by intro h; rw [h] at hp0; cases hp0
        have hW1 : withinB p p.dropLast = true := by unfold withinB; exact decide_eq_true (within_parent p)
        have hW2 : withinB p.dropLast p = false := by unfold withinB; exact decide_eq_false (not_within_parent hpne)
        have hls := mem_sum (last_mem hpne)
        have hjn := fun h => there_join h hpne
        have hul : p.dropLast.length ≤ p.length := by rw [List.length_dropLast]; omega
        have hus := sumP_dropLast p
        generalize p.dropLast = up at *
        generalize lastP p = last at *
        go_wp2_with fail
        refine (within_calls B d p A5 c5 up _ (Kd.C_below HR2.out hbv) hd HC5.out hc5 (by omega)).mono ?_
        rw [hW1]
        rintro e u2 ⟨rfl, m2, hu2⟩
        have HC6 : Hid (Kd.C Kd.string u2 A5 up.length up) := Lib.hid (by rw [hu2]; exact Kd.C_below HC5.out (bdrewN (Below.refl _ _) m2))
        have hbw : Below w.heap.size w u2 := by rw [hu2]; exact bdrewN hbv m2
        clear HC5 hbv hu2 hW1
        go_wp2_with fail
        refine (within_calls A5 c5 up B d p _ HC6.out hc5 (Kd.C_below HR2.out hbw) hd (by omega)).mono ?_
        rw [hW2]
        rintro e u3 ⟨rfl, m3, hu3⟩
        have HC7 : Hid (Kd.C Kd.string u3 A5 up.length up) := Lib.hid (by rw [hu3]; exact Kd.C_below HC6.out (bdrewN (Below.refl _ _) m3))
        have hbx : Below w.heap.size w u3 := by rw [hu3]; exact bdrewN hbw m3
        clear HC6 hbw hu3 hW2
        go_wp2_with fail
        refine (pjoin_calls A5 c5 up last _ HC7.out hc5 (by omega) (by omega) (by omega)).mono ?_
        rintro e u4 ⟨x4, rfl, ho, hb4⟩
        obtain ⟨A8, c8, rfl, hc8, hC8⟩ := Kd.R_reads ho
        have HC8 := Lib.hid hC8
        have hby := bstep hbx hbx.size hb4
        have hjl := joinR_len' up last
        clear ho hC8 hbx hb4 HC7
        go_wp2_with fail
        refine (right_calls B d p _ (Kd.C_below HR2.out hby) hd (by omega) (by omega)).mono ?_
        rintro e u5 ⟨rfl, hb5⟩
        have HC9 := Lib.hid (Kd.C_below HC8.out hb5)
        have hbz := bstep hby hby.size hb5
        clear HC8 hby hb5
        cases hrp : rightB p
        · go_wp2_with fail
          go_ret
          exact ⟨rfl, hbz⟩
        · have hj := hjn hrp
          first | rw [hj] at HC9 hc8 ⊢ | rw [hj] at HC9 hc8 | skip
          go_wp2_with fail
          refine (rsame_calls A8 c8 p B d p _ HC9.out hc8 (Kd.C_below HR2.out hbz) hd (by omega)).mono ?_
          rintro e u6 ⟨rfl, m6, hu6⟩
          have hbq := bdrewN hbz m6
          rw [show sameB p p = true by simp [sameB]]
          go_wp2_with fail
          go_ret
          exact ⟨rfl, by first | exact hbq | (rw [hu6]; exact hbq)⟩
      · have hpe : p = [] := List.isEmpty_iff.1 hp0
        have hpl : ((p.length : Int) == 0) = true := by rw [hpe]; rfl
        go_wp2_with fail
        go_ret
        exact ⟨by first | rfl | (rw [hpe]; rfl), hbv⟩
    · have hrp1 : rightB p = false := by
        cases h : rightB p
        · rfl
        · exact absurd ⟨hra, h⟩ hrr
      go_wp2_with fail
      refine (right_calls B d p _ (Kd.C_below HR2.out hbc) hd (by omega) (by omega)).mono ?_
      rw [hrp1]
      rintro e w4 ⟨rfl, hb4⟩
      have hbt := bstep hbc hbc.size hb4
      clear hbc hb4
      go_wp2_with fail
      refine (parent_calls B d p _ (Kd.C_below HR2.out hbt) hd (by omega)).mono ?_
      rintro e u1 ⟨x1, rfl, ho, hbu⟩
      obtain ⟨A5, c5, rfl, hc5, hC5⟩ := Kd.R_reads ho
      have HC5 := Lib.hid hC5
      have hbv := bstep hbt hbt.size hbu
      clear ho hC5 hbt hbu
      cases hp0 : p.isEmpty
      · have hpne : p ≠ [] := by intro h; rw [h] at hp0; cases hp0
        have hW1 : withinB p p.dropLast = true := by unfold withinB; exact decide_eq_true (within_parent p)
        have hW2 : withinB p.dropLast p = false := by unfold withinB; exact decide_eq_false (not_within_parent hpne)
        have hls := mem_sum (last_mem hpne)
        have hjn := fun h => there_join h hpne
        have hul : p.dropLast.length ≤ p.length := by rw [List.length_dropLast]; omega
        have hus := sumP_dropLast p
        generalize p.dropLast = up at *
        generalize lastP p = last at *
        go_wp2_with fail
        refine (within_calls B d p A5 c5 up _ (Kd.C_below HR2.out hbv) hd HC5.out hc5 (by omega)).mono ?_
        rw [hW1]
        rintro e u2 ⟨rfl, m2, hu2⟩
        have HC6 : Hid (Kd.C Kd.string u2 A5 up.length up) := Lib.hid (by rw [hu2]; exact Kd.C_below HC5.out (bdrewN (Below.refl _ _) m2))
        have hbw : Below w.heap.size w u2 := by rw [hu2]; exact bdrewN hbv m2
        clear HC5 hbv hu2 hW1
        go_wp2_with fail
        refine (within_calls A5 c5 up B d p _ HC6.out hc5 (Kd.C_below HR2.out hbw) hd (by omega)).mono ?_
        rw [hW2]
        rintro e u3 ⟨rfl, m3, hu3⟩
        have HC7 : Hid (Kd.C Kd.string u3 A5 up.length up) := Lib.hid (by rw [hu3]; exact Kd.C_below HC6.out (bdrewN (Below.refl _ _) m3))
        have hbx : Below w.heap.size w u3 := by rw [hu3]; exact bdrewN hbw m3
        clear HC6 hbw hu3 hW2
        go_wp2_with fail
        refine (pjoin_calls A5 c5 up last _ HC7.out hc5 (by omega) (by omega) (by omega)).mono ?_
        rintro e u4 ⟨x4, rfl, ho, hb4⟩
        obtain ⟨A8, c8, rfl, hc8, hC8⟩ := Kd.R_reads ho
        have HC8 := Lib.hid hC8
        have hby := bstep hbx hbx.size hb4
        have hjl := joinR_len' up last
        clear ho hC8 hbx hb4 HC7
        go_wp2_with fail
        refine (right_calls B d p _ (Kd.C_below HR2.out hby) hd (by omega) (by omega)).mono ?_
        rintro e u5 ⟨rfl, hb5⟩
        have HC9 := Lib.hid (Kd.C_below HC8.out hb5)
        have hbz := bstep hby hby.size hb5
        clear HC8 hby hb5
        cases hrp : rightB p
        · go_wp2_with fail
          go_ret
          exact ⟨rfl, hbz⟩
        · have hj := hjn hrp
          first | rw [hj] at HC9 hc8 ⊢ | rw [hj] at HC9 hc8 | skip
          go_wp2_with fail
          refine (rsame_calls A8 c8 p B d p _ HC9.out hc8 (Kd.C_below HR2.out hbz) hd (by omega)).mono ?_
          rintro e u6 ⟨rfl, m6, hu6⟩
          have hbq := bdrewN hbz m6
          rw [show sameB p p = true by simp [sameB]]
          go_wp2_with fail
          go_ret
          exact ⟨rfl, by first | exact hbq | (rw [hu6]; exact hbq)⟩
      · have hpe : p = [] := List.isEmpty_iff.1 hp0
        have hpl : ((p.length : Int) == 0) = true := by rw [hpe]; rfl
        go_wp2_with fail
        go_ret
        exact ⟨by first | rfl | (rw [hpe]; rfl), hbv⟩
end Go.Proofs.YtdhchmonmbppmaaDoor.G
