/- paths.Cover: the walk. -/
import Derived.Test.YtdhchmonmbppmaaDoorCover
import Derived.Test.YtdhchmonmbppmaaDoorWApart
namespace Go.Proofs.YtdhchmonmbppmaaDoor.G
open Go.RowKit Go.Lib Go.Proofs.YtdhchmonmbppmaaDoorW.PrintWords Go.Proofs.YtdhchmonmbppmaaDoorW.PrintLast
set_option linter.unusedVariables false

theorem cover_fold_length : ∀ (t out : List (List ByteArray)), (t.foldl coverStep out).length ≤ out.length + t.length
  | [], out => by simp
  | p :: t, out => by
    have h := cover_fold_length t (coverStep out p)
    have h2 : (coverStep out p).length ≤ out.length + 1 := by
      unfold coverStep
      split <;> simp
    simp only [List.foldl_cons, List.length_cons]
    omega
theorem last_get {q : List (List ByteArray)} {m : Nat} (h : q.length = m + 1) : q.getLastD [] = q[m]'(by omega) := by
  have e : q.length - 1 = m := by omega
  rw [List.getLastD_eq_getLast?, List.getLast?_eq_getElem?, e, List.getElem?_eq_getElem (by omega)]
  rfl

theorem add_zero_block (g k : Nat) : (⟨g, 0, none⟩ : Addr).add k = ⟨g, k, none⟩ := by
  unfold Addr.add
  split
  · rename_i h; subst h; rfl
  · simp
set_option maxHeartbeats 8000000 in
set_option maxRecDepth 100000 in
theorem cover_yes (w : World) (A : Option Addr) (c : Nat) (d : List (VPE w)) (hr : Kd.C (VK w) w A d.length d) (hc : d.length ≤ c) (hl : d.length ≤ 1099511627776) (h0 : 0 < d.length) :
    Calls Tryd.prog 27 #[.slice A d.length c] w fun e w' => ∃ v s, e = .returned v ∧ s.Perm (pathsOf d) ∧ sortedP s ∧ Kd.S PathK 23 w' w.heap.size (fun _ => True) v (coverF s) ∧ Below w.heap.size w w' := by
  have HR := Lib.hid hr
  clear hr
  go_enter Tryd.func27, Tryd.ntmps27
  go_wp2_with fail
  refine (clones_calls w A c d HR.out hc hl).mono ?_
  rintro e w1 ⟨v1, rfl, ho, hb⟩
  obtain ⟨g, cap, rfl⟩ : ∃ g cap, v1 = .slice (some ⟨g, 0, none⟩) d.length cap := by
    obtain ⟨inner, how⟩ := Kd.R_own ho
    rcases how.2 with ⟨rfl, h⟩ | ⟨g, cap, cur, rfl, _⟩
    · omega
    · exact ⟨g, cap, rfl⟩
  have HS := Lib.hid (sort_calls d h0 hl hb ho)
  clear ho
  go_wp2_with fail
  refine HS.out.mono ?_
  rintro e w2 ⟨rfl, d', hp, hsort, hC, hb2⟩
  have hlen : d'.length = d.length := hp.length_eq
  have HC := Lib.hid hC
  have HP := Lib.hid (show (pathsOf d').Perm (pathsOf d) from hp.map _)
  have HO := Lib.hid hsort
  rw [← hlen]
  clear hC HS hp hsort h0 hb
  go_wp2_with fail
  go_loopw [4, 13] (fun v i wr => ∃ k : Nat, k ≤ d'.length ∧ i = .int .i64 k ∧ Hid (Kd.S PathK 23 wr w2.heap.size (fun _ => True) v (((pathsOf d').take k).foldl coverStep [])) ∧ Below w2.heap.size w2 wr) (fun _ i _ => d'.length - (RowKit.intOf i).toNat)
  case atStart => exact ⟨0, by omega, rfl, Lib.hid (Kd.S_nil _ _ _ _ _), Below.refl _ _⟩
  case round =>
    obtain ⟨k, hk, rfl, HV, hb⟩ := hrel
    have hsz := hb.size
    have hfl := cover_fold_length ((pathsOf d').take k) []
    rw [List.length_take, List.length_nil] at hfl
    by_cases hlt : k < d'.length
    · obtain ⟨ad, hA, hx⟩ := ReadsOf.at_ (Kd.reads_of_C (d := default) HC.out) (k : Int) (by omega) (by omega)
      injection hA with hA
      subst hA
      rw [Int.toNat_natCast] at hx
      have he : rdOf default d' (k : Int) = d'[k] := by simp [rdOf, hlt]
      rw [he] at hx
      have hx2 := (hb.cell (World.block_lt_of_cell? w2 _ hx)).trans hx
      have hT : ((pathsOf d').take (k + 1)).foldl coverStep [] = coverStep (((pathsOf d').take k).foldl coverStep []) d'[k].1.l := by
        have hk2 : k < (pathsOf d').length := by rw [pathsOf_length]; exact hlt
        rw [List.take_succ_eq_append_getElem hk2, List.foldl_append]
        simp [pathsOf]
      have HT := Lib.hid hT
      have hV := d'[k].2
      clear he hx hT
      generalize d'[k] = x at *
      obtain ⟨⟨xA, xc, p⟩, hV'⟩ := x
      obtain ⟨hV1, hV2, hV3⟩ := hV
      change w2.heap.size ≤ wr.heap.size at hsz
      change Kd.C Kd.string w xA p.length p at hV1
      change p.length ≤ xc at hV2
      change p.length ≤ 1099511627776 at hV3
      change wr.cell? _ = some (.slice xA p.length xc) at hx2
      rw [add_zero_block] at hx2
      change Hid (_ = coverStep _ p) at HT
      have hbw := bstep hb2 hb2.size hb
      have HX := Lib.hid (Kd.C_below hV1 hbw)
      clear hV1 hV'
      generalize ((pathsOf d').take k).foldl coverStep [] = q at *
      obtain ⟨A4, c4, hv4, hc4, hC4⟩ := Kd.S_reads HV.out
      rw [hv4] at HV ⊢
      rcases Nat.eq_zero_or_pos q.length with hq | hq
      · obtain rfl := List.length_eq_zero_iff.1 hq
        have HT2 : Hid (((pathsOf d').take (k + 1)).foldl coverStep [] = [] ++ [p]) := Lib.hid (by rw [HT.out]; rfl)
        have hz : (((0 : Nat) : Int) == 0) = true := rfl
        change Hid (Kd.S PathK _ _ _ _ (.slice A4 0 c4) []) at HV
        show _
        clear hC4 HT hq
        go_wp2_with fail
        refine (clone_calls xA xc p _ HX.out hV2 (by omega)).mono ?_
        rintro e w6 ⟨v6, rfl, ho6, hb6⟩
        obtain ⟨A6, c6, hv6, hc6, hC6⟩ := Kd.R_reads ho6
        have hlt6 := Kd.S_lt HV.out
        have HV6 := Lib.hid (Kd.S_below (Kd.S_mono (Kd.S_bound HV.out) (ok' := fun k => True ∧ ¬ wr.heap.size ≤ k) (fun k h => ⟨trivial, fun e => by have := h.2.2.1; omega⟩)) hb6)
        have HP6 : Hid (Kd.R Kd.string 9 w6 w2.heap.size (fun j => wr.heap.size ≤ j) v6 p) := Lib.hid (Kd.R_lower (Kd.R_mono (Kd.R_bound ho6) (fun j h => h.2.1)) (hsz))
        have hbx := bstep hb hb.size hb6
        have hsz6 := hbx.size
        rw [hv6] at HP6 ⊢
        clear ho6 hC6 hb6 hv6
        go_wp2_with (at_builtin; refine Kd.S_append PathK (w0 := w2) w2.heap.size rfl (.tmp 31) (.tmp 34) 43 23 (.slice none 0 0) 24 rfl Tryd.underlying43 info_path rfl (by decide) (by decide) _ [] p [.slice A6 p.length c6] (fun _ => True) (fun j => wr.heap.size ≤ j) rfl rfl ?aP ?aK ?aF ?aO ?aB ?aS ?aL ?_; (case aP => exact ⟨_, rfl, HP6.out⟩); (case aK => exact fun j hj => ⟨trivial, fun e => by have := hlt6 j e.symm; omega⟩); (case aF => exact (fun _ _ => trivial)); (case aO => exact HV6.out); (case aB => exact hbx); (case aS => exact hsz6); (case aL => first | omega | simp); intro v7 w7 ho7 hb7 hg hat)
        go_roundw
        case rel => exact ⟨k + 1, by omega, by go_num, Lib.hid (by rw [HT2.out]; exact ho7), hb7⟩
        case measure => simp [RowKit.intOf]; omega
      · obtain ⟨m, hm⟩ : ∃ m, q.length = m + 1 := ⟨q.length - 1, by omega⟩
        obtain ⟨ad, A', c', rfl, hy, hc', hC'⟩ := path_at hC4 m (by omega)
        have hlast := last_get hm
        have hz : ((q.length : Int) == 0) = false := beq_eq_false_iff_ne.2 (by omega)
        have hcs : ((pathsOf d').take (k + 1)).foldl coverStep [] = if withinB p (q[m]'(by omega)) then q else q ++ [p] := by
          rw [HT.out, coverStep, hlast]
          have h1 : q.isEmpty = false := by cases q with | nil => simp at hm | cons _ _ => rfl
          rw [h1]
          unfold withinB
          cases decide (both p (q[m]'(by omega)) = (q[m]'(by omega)).length) <;> rfl
        have HW := Lib.hid (within_calls xA xc p A' c' (q[m]'(by omega)) wr HX.out hV2 hC' hc' (by omega))
        have HCS := Lib.hid hcs
        generalize withinB p (q[m]'(by omega)) = wb at *
        clear hcs hC' hlast HT
        generalize (q[m]'(by omega)).length = n2 at *
        have hm2 : (m : Int) ≤ 1099511627776 := by omega
        have hz2 : ((m : Int) + 1 == 0) = false := beq_eq_false_iff_ne.2 (by omega)
        rw [hm] at HV
        go_wp2_with fail
        refine HW.out.mono ?_
        rintro e u1 ⟨rfl, nn, rfl⟩
        have hbu : Below w2.heap.size w2 (wr.drewN nn) := bdrewN hb nn
        have HVu := Lib.hid (Kd.S_below HV.out (bdrewN (Below.refl _ wr) nn))
        cases wb
        · have HT2 : Hid (((pathsOf d').take (k + 1)).foldl coverStep [] = q ++ [p]) := Lib.hid (by rw [HCS.out]; rfl)
          clear HCS
          go_wp2_with fail
          refine (clone_calls xA xc p _ (Kd.C_below HX.out (bdrewN (Below.refl _ wr) nn)) hV2 (by omega)).mono ?_
          rintro e w6 ⟨v6, rfl, ho6, hb6⟩
          obtain ⟨A6, c6, hv6, hc6, hC6⟩ := Kd.R_reads ho6
          have hlt6 := Kd.S_lt HV.out
          have HV6 := Lib.hid (Kd.S_below (Kd.S_below (Kd.S_mono (Kd.S_bound HV.out) (ok' := fun k => True ∧ ¬ wr.heap.size ≤ k) (fun k h => ⟨trivial, fun e => by have := h.2.2.1; omega⟩)) (bdrewN (Below.refl _ wr) nn)) hb6)
          have HP6 : Hid (Kd.R Kd.string 9 w6 w2.heap.size (fun j => wr.heap.size ≤ j) v6 p) := Lib.hid (Kd.R_lower (Kd.R_mono (Kd.R_bound ho6) (fun j h => h.2.1)) (hsz))
          have hbx := bstep hbu hbu.size hb6
          have hsz6 := hbx.size
          rw [hv6] at HP6 ⊢
          clear ho6 hC6 hb6 hv6
          go_wp2_with (at_builtin; refine Kd.S_append PathK (w0 := w2) w2.heap.size rfl (.tmp 31) (.tmp 34) 43 23 (.slice none 0 0) 24 rfl Tryd.underlying43 info_path rfl (by decide) (by decide) _ q p [.slice A6 p.length c6] (fun _ => True) (fun j => wr.heap.size ≤ j) rfl rfl ?aP ?aK ?aF ?aO ?aB ?aS ?aL ?_; (case aP => exact ⟨_, rfl, HP6.out⟩); (case aK => exact fun j hj => ⟨trivial, fun e => by have := hlt6 j e.symm; omega⟩); (case aF => exact (fun _ _ => trivial)); (case aO => exact HV6.out); (case aB => exact hbx); (case aS => exact hsz6); (case aL => first | omega | simp); intro v7 w7 ho7 hb7 hg hat)
          go_roundw
          case rel => exact ⟨k + 1, by omega, by go_num, Lib.hid (by rw [HT2.out]; exact ho7), hb7⟩
          case measure => simp [RowKit.intOf]; omega
        · have HT2 : Hid (((pathsOf d').take (k + 1)).foldl coverStep [] = q) := Lib.hid (by rw [HCS.out]; rfl)
          clear HCS
          go_wp2_with fail
          go_roundw
          case rel => exact ⟨k + 1, by omega, by go_num, Lib.hid (by rw [HT2.out]; exact HVu.out), hbu⟩
          case measure => simp [RowKit.intOf]; omega
    · obtain rfl : k = d'.length := by omega
      go_wp2_with fail
      go_ret
      have hfin : ((pathsOf d').take d'.length) = pathsOf d' := by rw [List.take_of_length_le (by rw [pathsOf_length]; exact Nat.le_refl _)]
      have := HV.out
      rw [hfin] at this
      exact ⟨_, pathsOf d', rfl, HP.out, HO.out, Kd.S_lower this hb2.size, bstep hb2 hb2.size hb⟩
end Go.Proofs.YtdhchmonmbppmaaDoor.G
