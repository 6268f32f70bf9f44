/- The reference's Cover. -/
import Derived.Test.YtdhchmonmbppmaaDoorPut
import Derived.Test.YtdhchmonmbppmaaDoorLaw3
namespace Go.Proofs.YtdhchmonmbppmaaDoor.G
open Go.RowKit Go.Lib Go.Proofs.YtdhchmonmbppmaaDoorW.PrintWords Go.Proofs.YtdhchmonmbppmaaDoorW.PrintLast
set_option linter.unusedVariables false

def badK (ll : List (List ByteArray)) (i k : Nat) : Prop := (ll.getD k []) <+: (ll.getD i []) ∧ ((ll.getD k []).length < (ll.getD i []).length ∨ k < i)
def keepTo (ll : List (List ByteArray)) (i m : Nat) : Prop := ∀ k, k < m → ¬ badK ll i k
structure RCov (ll : List (List ByteArray)) (i : Nat) (out : List (List ByteArray)) : Prop where
  strict : strictP out
  mem : ∀ x, x ∈ out ↔ ∃ j, j < i ∧ keepTo ll j ll.length ∧ ll.getD j [] = x
  len : out.length ≤ i
theorem rcov_zero (ll : List (List ByteArray)) : RCov ll 0 [] := ⟨List.Pairwise.nil, fun x => ⟨(fun h => by cases h), (fun ⟨j, h, _⟩ => by omega)⟩, by simp⟩
theorem rcov_skip {ll out : List (List ByteArray)} {i : Nat} (h : RCov ll i out) (hk : ¬ keepTo ll i ll.length) : RCov ll (i + 1) out := by
  refine ⟨h.strict, fun x => ?_, by have := h.len; omega⟩
  rw [h.mem]
  constructor
  · rintro ⟨j, h1, h2⟩; exact ⟨j, by omega, h2⟩
  · rintro ⟨j, h1, h2, h3⟩
    by_cases e : j = i
    · subst e; exact absurd h2 hk
    · exact ⟨j, by omega, h2, h3⟩
theorem ins_strict {out : List (List ByteArray)} {p : List ByteArray} {m : Nat} (hs : strictP out) (hp : p ∉ out) (hm : m ≤ out.length) (hd : ∀ x ∈ out.drop m, cmpP p x < 0) (ht : m = 0 ∨ ∃ x, out[m - 1]? = some x ∧ ¬ cmpP p x < 0) :
    strictP (out.take m ++ p :: out.drop m) := by
  unfold strictP at *
  rw [List.pairwise_append, List.pairwise_cons]
  have hs2 := hs
  rw [← List.take_append_drop m out, List.pairwise_append] at hs2
  refine ⟨hs2.1, ⟨hd, hs2.2.1⟩, fun y hy z hz => ?_⟩
  rcases List.mem_cons.1 hz with rfl | hz
  · rcases ht with rfl | ⟨x, hx, hxp⟩
    · simp at hy
    · have hyx : cmpP y x ≤ 0 := by
        obtain ⟨j, hj, rfl⟩ := List.mem_iff_getElem.1 hy
        have hjm : j < m := by rw [List.length_take] at hj; omega
        rw [List.getElem_take]
        obtain ⟨hl, he⟩ := List.getElem?_eq_some_iff.1 hx
        by_cases e : j = m - 1
        · subst e; rw [he, cmp_self]; decide
        · have := List.pairwise_iff_getElem.1 hs j (m - 1) (by omega) hl (by omega)
          rw [he] at this
          omega
      have h2 := cmp_anti x z
      have h3 := cmp_trans hyx (show cmpP x z ≤ 0 by omega)
      rcases Int.lt_or_le (cmpP y z) 0 with h | h
      · exact h
      · have h4 : y = z := cmp_zero.1 (by omega)
        exact absurd (h4 ▸ List.mem_of_mem_take hy) hp
  · exact hs2.2.2 y hy z hz
theorem rcov_add {ll out : List (List ByteArray)} {i m : Nat} (h : RCov ll i out) (hi : i < ll.length) (hk : keepTo ll i ll.length) (hm : m ≤ out.length) (hd : ∀ x ∈ out.drop m, cmpP (ll.getD i []) x < 0) (ht : m = 0 ∨ ∃ x, out[m - 1]? = some x ∧ ¬ cmpP (ll.getD i []) x < 0) :
    RCov ll (i + 1) (out.take m ++ ll.getD i [] :: out.drop m) := by
  have hp : ll.getD i [] ∉ out := by
    intro hp
    obtain ⟨j, h1, _, h3⟩ := (h.mem _).1 hp
    exact hk j (by omega) ⟨by rw [h3]; exact List.prefix_refl _, .inr h1⟩
  refine ⟨ins_strict h.strict hp hm hd ht, fun x => ?_, ?_⟩
  · have hmem : x ∈ out.take m ++ ll.getD i [] :: out.drop m ↔ x ∈ out ∨ x = ll.getD i [] := by
      conv => rhs; rw [← List.take_append_drop m out]
      simp only [List.mem_append, List.mem_cons]
      constructor
      · rintro (h | h | h)
        · exact .inl (.inl h)
        · exact .inr h
        · exact .inl (.inr h)
      · rintro ((h | h) | h)
        · exact .inl h
        · exact .inr (.inr h)
        · exact .inr (.inl h)
    rw [hmem, h.mem]
    constructor
    · rintro (⟨j, h1, h2⟩ | rfl)
      · exact ⟨j, by omega, h2⟩
      · exact ⟨i, by omega, hk, rfl⟩
    · rintro ⟨j, h1, h2, h3⟩
      by_cases e : j = i
      · subst e; exact .inr h3.symm
      · exact .inl ⟨j, by omega, h2, h3⟩
  · have := h.len
    rw [List.length_append, List.length_cons, List.length_take, List.length_drop]
    omega
theorem rcov_least {ll out : List (List ByteArray)} (h : RCov ll ll.length out) (x : List ByteArray) : x ∈ out ↔ leastP ll x := by
  have hg : ∀ k (hk : k < ll.length), ll.getD k [] = ll[k] := fun k hk => by simp [List.getD, hk]
  rw [h.mem]
  constructor
  · rintro ⟨j, h1, h2, rfl⟩
    rw [hg j h1]
    refine ⟨List.getElem_mem h1, fun y hy hyx => ?_⟩
    obtain ⟨k, hk, rfl⟩ := List.mem_iff_getElem.1 hy
    have h3 := h2 k hk
    unfold badK at h3
    rw [hg k hk, hg j h1] at h3
    have h4 : ¬ ll[k].length < ll[j].length := fun e => h3 ⟨hyx, .inl e⟩
    exact hyx.eq_of_length (Nat.le_antisymm hyx.length_le (by omega))
  · rintro ⟨h1, h2⟩
    have hex : ∃ j, j < ll.length ∧ ll.getD j [] = x := by
      obtain ⟨j, hj, rfl⟩ := List.mem_iff_getElem.1 h1
      exact ⟨j, hj, hg j hj⟩
    obtain ⟨j, ⟨hj1, hj2⟩, hmin⟩ : ∃ j, (j < ll.length ∧ ll.getD j [] = x) ∧ ∀ k, k < j → ¬ (k < ll.length ∧ ll.getD k [] = x) := by
      obtain ⟨j0, hj0⟩ := hex
      induction j0 using Nat.strongRecOn with
      | ind j0 ih =>
        by_cases he : ∃ k, k < j0 ∧ (k < ll.length ∧ ll.getD k [] = x)
        · obtain ⟨k, hk, hk2⟩ := he
          exact ih k hk hk2
        · exact ⟨j0, hj0, fun k hk h => he ⟨k, hk, h⟩⟩
    refine ⟨j, hj1, fun k hk hb => ?_, hj2⟩
    unfold badK at hb
    rw [hj2, hg k hk] at hb
    have h3 := h2 ll[k] (List.getElem_mem hk) hb.1
    rcases hb.2 with h4 | h4
    · rw [h3] at h4; omega
    · exact hmin k h4 ⟨hk, by rw [hg k hk, h3]⟩

theorem within_iff' (p q : List ByteArray) : withinB p q = true ↔ q <+: p := by
  unfold withinB
  rw [decide_eq_true_iff]
  exact both_prefix p q
theorem own_form {e base : Nat} {W : World} {ok : Nat → Prop} {v : Value} {xs : List (List ByteArray)} (h : Kd.R PathK e W base ok v xs) (h0 : 0 < xs.length) : ∃ g cap, v = .slice (some ⟨g, 0, none⟩) xs.length cap := by
  obtain ⟨inner, how⟩ := Kd.R_own h
  rcases how.2 with ⟨rfl, h⟩ | ⟨g, cap, cur, rfl, _⟩
  · omega
  · exact ⟨g, cap, rfl⟩
theorem swap_list {out : List (List ByteArray)} {p x : List ByteArray} {m : Nat} (hx : out[m]? = some x) :
    ((out.take (m + 1) ++ p :: out.drop (m + 1)).set (m + 1) x).set m p = out.take m ++ p :: out.drop m := by
  obtain ⟨hm, he⟩ := List.getElem?_eq_some_iff.1 hx
  have h1 : out.take (m + 1) = out.take m ++ [x] := by rw [List.take_succ_eq_append_getElem hm, he]
  have h2 : out.drop m = x :: out.drop (m + 1) := by rw [List.drop_eq_getElem_cons hm, he]
  have hl : (out.take m).length = m := by rw [List.length_take]; omega
  rw [h1, h2, List.append_assoc]
  rw [List.set_append_right _ _ (by rw [hl]; omega), List.set_append_right _ _ (by rw [hl]; omega), hl]
  rw [show m + 1 - m = 1 by omega, show m - m = 0 by omega]
  rfl

set_option maxHeartbeats 16000000 in
set_option maxRecDepth 100000 in
theorem rcover_calls (A : Option Addr) (c : Nat) (ll : List (List ByteArray)) (w : World) (hr : Kd.C PathK w A ll.length ll) (hc : ll.length ≤ c) (hl : sumLL ll ≤ 1099511627776) :
    Calls Tryd.prog 28 #[.slice A ll.length c] w fun e w' => ∃ v out, e = .returned v ∧ Kd.R PathK 23 w' w.heap.size (fun _ => True) v out ∧ strictP out ∧ (∀ x, x ∈ out ↔ leastP ll x) ∧ Below w.heap.size w w' := by
  have HR := Lib.hid hr
  have hll := sumLL_len ll
  have HL := Lib.hid (fun out h => rcov_least (ll := ll) (out := out) h)
  clear hr
  go_enter Tryd.func28, Tryd.ntmps28
  go_wp2
  go_loopw [3, 4] (fun v i wr => ∃ (k : Nat) (out : List (List ByteArray)), k ≤ ll.length ∧ i = .int .i64 k ∧ Hid (Kd.R PathK 23 wr w.heap.size (fun _ => True) v out) ∧ Hid (RCov ll k out) ∧ Below w.heap.size w wr) (fun _ i _ => ll.length - (RowKit.intOf i).toNat)
  case atStart => exact ⟨0, [], by omega, rfl, Lib.hid (Kd.R_nil _ _ _ _ _), Lib.hid (rcov_zero ll), Below.refl _ _⟩
  case round =>
    obtain ⟨i, out, hi, rfl, HO, HC, hb⟩ := hrel
    have hsz := hb.size
    by_cases hlt : i < ll.length
    · obtain ⟨ad, A1, c1, rfl, hx, hc1, hC1⟩ := path_at HR.out i hlt
      have hx2 := (hb.cell (World.block_lt_of_cell? w _ hx)).trans hx
      have HX := Lib.hid (Kd.C_below hC1 hb)
      have hgi : ll.getD i [] = ll[i] := by simp [List.getD, hlt]
      have hmi := sumLL_mem (List.getElem_mem hlt)
      have HGI := Lib.hid hgi
      clear hx hC1 hgi
      generalize ll[i] = p at *
      go_wp2_with fail
      go_loopw [5, 6] (fun b k wr2 => ∃ (m n : Nat) (bb : Bool), m ≤ ll.length ∧ b = .bool bb ∧ k = .int .i64 m ∧ wr2 = wr.drewN n ∧ Hid (bb = true ↔ keepTo ll i m)) (fun _ k _ => ll.length - (RowKit.intOf k).toNat)
      case atStart => exact ⟨0, 0, true, by omega, rfl, rfl, rfl, Lib.hid ⟨fun _ k h => by omega, fun _ => rfl⟩⟩
      case round =>
        obtain ⟨m, n, bb, hm, rfl, rfl, rfl, HB⟩ := hrel
        by_cases hlt2 : m < ll.length
        · obtain ⟨ad2, A2, c2, hA2, hy, hc2, hC2⟩ := path_at HR.out m hlt2
          injection hA2 with hA2
          subst hA2
          have hy2 := (hb.cell (World.block_lt_of_cell? w _ hy)).trans hy
          have hgm : ll.getD m [] = ll[m] := by simp [List.getD, hlt2]
          have hmm := sumLL_mem (List.getElem_mem hlt2)
          have HK : Hid (keepTo ll i (m + 1) ↔ (keepTo ll i m ∧ ¬ (withinB p ll[m] = true ∧ (ll[m].length < p.length ∨ m < i)))) := Lib.hid (by
            have hbad : badK ll i m ↔ (withinB p ll[m] = true ∧ (ll[m].length < p.length ∨ m < i)) := by
              unfold badK
              rw [hgm, HGI.out, within_iff']
            rw [← hbad]
            constructor
            · intro h; exact ⟨fun k hk => h k (by omega), h m (by omega)⟩
            · rintro ⟨h1, h2⟩ k hk
              by_cases e : k = m
              · subst e; exact h2
              · exact h1 k (by omega))
          have HW := Lib.hid (fun a j => (rwithin_calls A1 c1 p A2 c2 ll[m] (wr.drewN (a + j)) (Kd.C_below HX.out (bdrewN (Below.refl _ _) _)) hc1 (Kd.C_below (Kd.C_below hC2 hb) (bdrewN (Below.refl _ _) _)) hc2 (by omega)).mono (R' := fun e w'' => e = .returned (.bool (withinB p ll[m])) ∧ ∃ k, w'' = wr.drewN (a + k)) fun e w'' ⟨he, k, hw⟩ => ⟨he, j + k, by rw [hw, World.drewN_drewN]; congr 1; omega⟩)
          clear hy hC2 hgm
          generalize ll[m] = q at *
          generalize withinB p q = wb at *
          have g1 : (m : Int) < (ll.length : Int) := by omega
          have g2 : (i : Int) < (ll.length : Int) := by omega
          have e1 : decide ((q.length : Int) < (p.length : Int)) = decide (q.length < p.length) := by rw [decide_eq_decide]; omega
          have e2 : decide ((m : Int) < (i : Int)) = decide (m < i) := by rw [decide_eq_decide]; omega
          cases wb
          · have hk2 : bb = true ↔ keepTo ll i (m + 1) := by rw [HB.out, HK.out]; simp
            have HB2 := Lib.hid hk2
            clear hk2 HB HK e1 e2
            go_wp2_with fail
            go_quiet ((go_at_call 24; exact HW.out _ _))
            all_goals
              go_wp2_with fail
              go_roundw
              case rel => exact ⟨m + 1, n + nq, bb, by omega, rfl, by go_num, by first | rfl | exact World.drewN_drewN _ _ _, HB2⟩
              case measure => simp [RowKit.intOf]; omega
          · by_cases hq1 : q.length < p.length ∨ m < i
            · have hk2 : (false = true) ↔ keepTo ll i (m + 1) := by rw [HK.out]; simp [hq1]
              have HB2 := Lib.hid hk2
              clear hk2 HB HK
              by_cases h1 : q.length < p.length
              · have d1 : decide ((q.length : Int) < (p.length : Int)) = true := decide_eq_true (by omega)
                have d2 : (q.length : Int) < (p.length : Int) := by omega
                clear e1 e2 hq1 h1
                go_wp2_with fail
                go_quiet ((go_at_call 24; exact HW.out _ _))
                all_goals
                  go_wp2_with fail
                  go_roundw
                  case rel => exact ⟨m + 1, n + nq, false, by omega, rfl, by go_num, by first | rfl | exact World.drewN_drewN _ _ _, HB2⟩
                  case measure => simp [RowKit.intOf]; omega
              · have d1 : decide ((q.length : Int) < (p.length : Int)) = false := decide_eq_false (by omega)
                have d2 : ¬ (q.length : Int) < (p.length : Int) := by omega
                have d3 : decide ((m : Int) < (i : Int)) = true := decide_eq_true (by omega)
                have d4 : (m : Int) < (i : Int) := by omega
                have d5 : decide (q.length < p.length) = false := decide_eq_false h1
                have d6 : decide (m < i) = true := decide_eq_true (by omega)
                clear e1 e2 hq1
                go_wp2_with fail
                go_quiet ((go_at_call 24; exact HW.out _ _))
                all_goals
                  go_wp2_with fail
                  go_roundw
                  case rel => exact ⟨m + 1, n + nq, false, by omega, rfl, by go_num, by first | rfl | exact World.drewN_drewN _ _ _, HB2⟩
                  case measure => simp [RowKit.intOf]; omega
            · have hk2 : bb = true ↔ keepTo ll i (m + 1) := by rw [HB.out, HK.out]; simp [hq1]
              have HB2 := Lib.hid hk2
              clear hk2 HB HK
              have d1 : decide ((q.length : Int) < (p.length : Int)) = false := decide_eq_false (by omega)
              have d2 : ¬ (q.length : Int) < (p.length : Int) := by omega
              have d3 : decide ((m : Int) < (i : Int)) = false := decide_eq_false (by omega)
              have d4 : ¬ (m : Int) < (i : Int) := by omega
              have d5 : decide (q.length < p.length) = false := decide_eq_false (by omega)
              have d6 : decide (m < i) = false := decide_eq_false (by omega)
              clear e1 e2 hq1
              go_wp2_with fail
              go_quiet ((go_at_call 24; exact HW.out _ _))
              all_goals
                go_wp2_with fail
                go_roundw
                case rel => exact ⟨m + 1, n + nq, bb, by omega, rfl, by go_num, by first | rfl | exact World.drewN_drewN _ _ _, HB2⟩
                case measure => simp [RowKit.intOf]; omega
        · obtain rfl : m = ll.length := by omega
          clear hlt2
          have hbn := bdrewN hb n
          have HOn := Lib.hid (Kd.R_below HO.out (bdrewN (Below.refl _ wr) n))
          have HXn := Lib.hid (Kd.C_below HX.out (bdrewN (Below.refl _ wr) n))
          have hxn : (wr.drewN n).cell? (ad.add i) = some (.slice A1 p.length c1) := hx2
          generalize wr.drewN n = wn at *
          cases bb
          · have HC2 := Lib.hid (rcov_skip HC.out (fun h => by have := HB.out.2 h; cases this))
            clear HB HC
            go_wp2_with fail
            go_roundw
            case rel => exact ⟨i + 1, out, by omega, by go_num, HOn, HC2, hbn⟩
            case measure => simp [RowKit.intOf]; omega
          · have HKT := Lib.hid (HB.out.1 rfl)
            clear HB
            go_wp2_with fail
            refine (rcopy_calls A1 c1 p _ HXn.out hc1 (by omega)).mono ?_
            rintro e w6 ⟨v6, rfl, ho6, hb6⟩
            obtain ⟨A6, c6, hv6, hc6, hC6⟩ := Kd.R_reads ho6
            have hlt6 := Kd.R_lt HOn.out
            have HV6 := Lib.hid (Kd.R_below HOn.out hb6)
            have hszn := hbn.size
            have HP6 : Hid (Kd.R Kd.string 9 w6 w.heap.size (fun j => wn.heap.size ≤ j) v6 p) := Lib.hid (Kd.R_lower (Kd.R_mono (Kd.R_bound ho6) (fun j h => h.2.1)) hszn)
            have hbx := bstep hbn hszn hb6
            have hsz6 := hbx.size
            have hol := HC.out.len
            rw [hv6] at HP6 ⊢
            clear ho6 hC6 hb6 hv6 HXn HO hb hx2 HX
            go_wp2_with (at_builtin; refine Kd.R_append PathK (w0 := w) w.heap.size rfl (.tmp 50) (.tmp 56) 43 23 (.slice none 0 0) 24 rfl Tryd.underlying43 info_path rfl (by decide) (by decide) _ out p [.slice A6 p.length c6] (fun _ => True) (fun j => wn.heap.size ≤ j) rfl rfl ?aP ?aK ?aF ?aO ?aB ?aS ?aL ?_; (case aP => exact ⟨_, rfl, HP6.out⟩); (case aK => exact fun j hj => ⟨trivial, fun e => by have := hlt6 j e.symm; omega⟩); (case aF => exact (fun _ _ => trivial)); (case aO => exact HV6.out); (case aB => exact hbx); (case aS => exact hsz6); (case aL => omega); intro v7 w7 ho7 hb7 hg7 hat7; obtain ⟨g, cap, hv7⟩ := own_form ho7 (by simp); rw [hv7] at ho7 ⊢; rw [show (out ++ [p]).length = out.length + 1 by simp] at ho7 ⊢; have HO7 := Lib.hid ho7; clear ho7 hg7 hat7 hv7 HV6 HP6 hlt6)
            go_loopw [7] (fun k wr3 => ∃ m : Nat, m ≤ out.length ∧ k = .int .i64 m ∧ Hid (Kd.R PathK 23 wr3 w.heap.size (fun _ => True) (.slice (some ⟨g, 0, none⟩) (out.length + 1) cap) (out.take m ++ p :: out.drop m)) ∧ Hid (∀ x ∈ out.drop m, cmpP p x < 0) ∧ Below w.heap.size w wr3) (fun k _ => (RowKit.intOf k).toNat)
            case atStart => exact ⟨out.length, by omega, by go_num, Lib.hid (by rw [List.take_length, List.drop_length]; exact HO7.out), Lib.hid (by rw [List.drop_length]; intro x hx; cases hx), hb7⟩
            case round =>
              obtain ⟨m, hm, rfl, HM, HD, hb8⟩ := hrel
              rcases Nat.eq_zero_or_pos m with hm0 | hm0
              · subst hm0
                have HC2 := Lib.hid (rcov_add (m := 0) HC.out hlt HKT.out (by omega) (by rw [HGI.out]; exact HD.out) (.inl rfl))
                rw [HGI.out] at HC2
                clear HC HKT HD
                go_wp2_with fail
                go_quiet (fail)
                all_goals
                  have HMn := Lib.hid (Kd.R_below HM.out (bdrewN (Below.refl _ wr) nq))
                  have hb9 := bdrewN hb8 nq
                  go_wp2_with fail
                  go_roundw
                  case rel => exact ⟨i + 1, _, by omega, by go_num, HMn, HC2, hb9⟩
                  case measure => simp [RowKit.intOf]; omega
              · obtain ⟨k, rfl⟩ : ∃ k, m = k + 1 := ⟨m - 1, by omega⟩
                obtain ⟨x, hxk⟩ : ∃ x, out[k]? = some x := ⟨out[k]'(by omega), List.getElem?_eq_getElem (by omega)⟩
                have hsw := swap_list (p := p) hxk
                have hlk : (out.take (k + 1)).length = k + 1 := by rw [List.length_take]; omega
                have hcl : (out.take (k + 1) ++ p :: out.drop (k + 1)).length = out.length + 1 := by rw [List.length_append, List.length_cons, List.length_drop, hlk]; omega
                have hcp : (out.take (k + 1) ++ p :: out.drop (k + 1))[k + 1]'(by omega) = p := by
                  rw [List.getElem_append_right (by omega)]
                  simp [hlk]
                have hcx : (out.take (k + 1) ++ p :: out.drop (k + 1))[k]'(by omega) = x := by
                  rw [List.getElem_append_left (by omega), List.getElem_take]
                  obtain ⟨h1, h2⟩ := List.getElem?_eq_some_iff.1 hxk
                  exact h2
                obtain ⟨u1, n1, f1, R1⟩ := path_elem HM.out (k + 1) (by omega)
                obtain ⟨u2, n2, f2, R2⟩ := path_elem HM.out k (by omega)
                rw [hcp] at R1
                rw [hcx] at R2
                obtain ⟨B1, d1, hv1, hd1, hD1⟩ := Kd.R_reads R1
                obtain ⟨B2, d2, hv2, hd2, hD2⟩ := Kd.R_reads R2
                rw [hv1] at n1 R1
                rw [hv2] at n2 R2
                have HCm := Lib.hid (fun j => (rcompare_calls B1 d1 p B2 d2 x (wr.drewN j) (Kd.C_below hD1 (bdrewN (Below.refl _ _) _)) hd1 (Kd.C_below hD2 (bdrewN (Below.refl _ _) _)) hd2 (by omega)).mono (R' := fun e w'' => e = .returned (.int .i64 (cmpP p x)) ∧ ∃ k, w'' = wr.drewN k) fun e w'' ⟨he, k, hw⟩ => ⟨he, j + k, by rw [hw, World.drewN_drewN]⟩)
                have HMM := Lib.hid HM.out
                have HR1 := Lib.hid R1
                have HR2 := Lib.hid R2
                have HSW := Lib.hid hsw
                have HXK := Lib.hid hxk
                have HCL := Lib.hid hcl
                have hdd : cmpP p x < 0 → ∀ y ∈ out.drop k, cmpP p y < 0 := by
                  intro h y hy
                  obtain ⟨h1, h2⟩ := List.getElem?_eq_some_iff.1 hxk
                  rw [List.drop_eq_getElem_cons h1, h2] at hy
                  rcases List.mem_cons.1 hy with rfl | hy
                  · exact h
                  · exact HD.out y hy
                have HDD := Lib.hid hdd
                have HNN := Lib.hid (fun h => rcov_add (m := k + 1) HC.out hlt HKT.out hm (by rw [HGI.out]; exact HD.out) (.inr ⟨x, hxk, by rw [HGI.out]; exact h⟩))
                clear hv1 hv2 R1 R2 hD1 hD2 hcp hcx hsw hxk hlk hcl hdd HM
                generalize cmpP p x = cv at *
                have g1 : (0 : Int) < (k : Int) + 1 := by omega
                have g2 : decide ((0 : Int) < (k : Int) + 1) = true := decide_eq_true (by omega)
                have g3 : (k : Int) + 1 < (out.length : Int) + 1 := by omega
                have g4 : (k : Int) < (out.length : Int) + 1 := by omega
                have g5 : (k : Int) + 1 ≤ 1099511627776 := by omega
                have g6 : (k : Int) < (out.length : Int) := by omega
                have hwk : IntKind.i64.wrap (k : Int) = (k : Int) := IntWalk.i64_in _ (by omega)
                have g10 : (k : Int) ≤ (out.length : Int) := by omega
                have g7 : k < out.length := by omega
                have g8 : k < out.length + 1 := by omega
                have g9 : (0 : Int) ≤ (k : Int) + 1 := by omega
                have n1' : wr.cell? ⟨g, ((k : Int) + 1).toNat, none⟩ = some (.slice B1 p.length d1) := by rw [show ((k : Int) + 1).toNat = k + 1 by omega]; exact n1
                by_cases hcv : cv < 0
                · have c1' : decide (cv < 0) = true := decide_eq_true hcv
                  go_wp2_with fail
                  go_quiet ((go_at_call 25; exact HCm.out _))
                  all_goals
                    go_wp2_with fail
                    go_roundw
                    case rel =>
                      have hge : w.heap.size ≤ g := by
                        obtain ⟨inner, how⟩ := Kd.R_own HMM.out
                        exact own_base how g (by simp [Value.ownBlock])
                      have hdn := bdrewN (Below.refl wr.heap.size wr) nq
                      have P1 := path_put (Kd.R_below HMM.out hdn) (k + 1) (by rw [HCL.out]; omega) (.slice B2 x.length d2) x (Kd.R_below HR2.out hdn)
                      have P2 := path_put P1 k (by rw [List.length_set, HCL.out]; omega) (.slice B1 p.length d1) p (Kd.R_far (Kd.R_below HR1.out hdn) (p := ⟨g, k + 1, none⟩) (fun j hj e => hj.2 (by rw [e])) _)
                      rw [HSW.out] at P2
                      exact ⟨k, by omega, rfl, Lib.hid P2, Lib.hid (HDD.out hcv), ((bdrewN hb8 nq).setCell (p := ⟨g, k + 1, none⟩) hge _).setCell (p := ⟨g, k, none⟩) hge _⟩
                    case measure => simp [RowKit.intOf]
                · have c1' : decide (cv < 0) = false := decide_eq_false hcv
                  have HC2 := Lib.hid (HNN.out hcv)
                  rw [HGI.out] at HC2
                  clear HC HKT HD HNN HDD
                  go_wp2_with fail
                  go_quiet ((go_at_call 25; exact HCm.out _))
                  all_goals
                    have HMn := Lib.hid (Kd.R_below HMM.out (bdrewN (Below.refl _ wr) nq))
                    have hb9 := bdrewN hb8 nq
                    go_wp2_with fail
                    go_roundw
                    case rel => exact ⟨i + 1, _, by omega, by go_num, HMn, HC2, hb9⟩
                    case measure => simp [RowKit.intOf]; omega
    · obtain rfl : i = ll.length := by omega
      go_wp2_with fail
      go_ret
      exact ⟨_, out, rfl, HO.out, HC.out.strict, HL.out out HC.out, hb⟩
end Go.Proofs.YtdhchmonmbppmaaDoor.G
