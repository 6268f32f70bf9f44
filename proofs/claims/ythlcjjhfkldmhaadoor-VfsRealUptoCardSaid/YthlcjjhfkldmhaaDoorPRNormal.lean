/- The reference's Normal. (chapter 02, in a namespace of its own) -/
import Derived.Test.YthlcjjhfkldmhaaDoorPParts
import Derived.Test.YthlcjjhfkldmhaaDoorVWalk
set_option linter.unusedVariables false
set_option linter.unusedSimpArgs false
namespace Go.Proofs.YthlcjjhfkldmhaaDoor.P
section
open Go.RowKit Go.Lib Go.Proofs.YthlcjjhfkldmhaaDoorW.PrintWords Go.Proofs.YthlcjjhfkldmhaaDoorW.PrintLast Go.Proofs.YthlcjjhfkldmhaaDoor.G
set_option linter.unusedVariables false
set_option linter.unusedSimpArgs false

theorem zero_none {s : ByteArray} (h : decide (0 ≤ Lib.indexByte s.data.toList 0) = false) (k : Nat) : s.data.toList[k]? ≠ some 0 := by
  have h1 := of_decide_eq_false h
  have h2 := Lib.indexByte_ge s.data.toList 0
  exact Lib.indexByte_none (by omega) k
theorem zero_some {s : ByteArray} (h : decide (0 ≤ Lib.indexByte s.data.toList 0) = true) : ∃ k, k < s.size ∧ s.data.toList[k]? = some 0 := by
  have h1 := of_decide_eq_true h
  obtain ⟨o, ho⟩ : ∃ o : Nat, Lib.indexByte s.data.toList 0 = o := ⟨(Lib.indexByte s.data.toList 0).toNat, by omega⟩
  have h2 := (Lib.indexByte_some ho).1
  exact ⟨o, by rw [Lib.size_eq]; exact (List.getElem?_eq_some_iff.1 h2).1, h2⟩

set_option maxHeartbeats 8000000 in
set_option maxRecDepth 100000 in
theorem rnormal_calls (A : Option Addr) (c : Nat) (a : List ByteArray) (s : ByteArray) (w : World) (hr : Kd.C Kd.string w A a.length a) (hc : a.length ≤ c) (hl : a.length ≤ 1099511627776) (hs : sumP a ≤ 140737488355328) :
    Calls Tryd.prog 41 #[.slice A a.length c, .string s] w fun e w' => ∃ v, e = .returned (.tuple #[v, .bool (normR a s).2.1, .int .i64 (normR a s).2.2]) ∧ Kd.R Kd.string 9 w' w.heap.size (fun _ => True) v (normR a s).1 ∧ Below w.heap.size w w' := by
  have H1 := Lib.hid (fun W h => rright_calls A c a W h hc (by omega) (by omega))
  have HR := Lib.hid hr
  obtain ⟨Q, hQ⟩ : ∃ Q, Q = normR a s := ⟨_, rfl⟩
  rw [← hQ]
  unfold normR at hQ
  have HQ := Lib.hid hQ
  clear hr hQ
  go_enter Tryd.func41, Tryd.ntmps41
  go_wp2_with fail
  refine (H1.out _ HR.out).mono ?_
  rintro e w1 ⟨rfl, hw⟩
  rw [hw]
  clear hw H1
  cases hR : rightB a
  · have HQ2 : Hid (Q = ([], false, 20)) := Lib.hid (by rw [HQ.out, hR]; rfl)
    clear HQ hR
    go_wp2_with fail
    go_ret3
    exact ⟨_, by rw [HQ2.out]; rfl, by rw [HQ2.out]; exact Kd.R_nil _ _ _ _ _, Below.refl _ _⟩
  · have hsa := rightB_sum hR
    have hla := sumP_len a
    rw [hR] at HQ
    simp only [if_true] at HQ
    clear hR
    by_cases hsz : (s.size : Int) ≤ 1024
    · rw [if_pos hsz] at HQ
      cases he : s.toList.isEmpty
      · rw [he] at HQ
        have hpos : 0 < s.size := by
          rcases Nat.eq_zero_or_pos s.size with h | h
          · have : s.toList = [] := by rw [Lib.toList_data]; exact List.length_eq_zero_iff.1 (by rw [← Lib.size_eq]; exact h)
            rw [this] at he
            cases he
          · exact h
        cases hz : decide (0 ≤ Lib.indexByte s.data.toList 0)
        · have HZ := Lib.hid (zero_none hz)
          rw [hz] at HQ
          simp only [Bool.or_self, Bool.false_eq_true, if_false] at HQ
          clear hz
          go_wp2_with fail
          go_loop [8] (fun i => ∃ k : Nat, k ≤ s.size ∧ i = .int .i64 k) (fun i => s.size - (RowKit.intOf i).toNat)
          case atStart => exact ⟨0, by omega, rfl⟩
          case round =>
            obtain ⟨k, hk, rfl⟩ := hrel
            by_cases hlt : k < s.size
            · obtain ⟨b, hbb⟩ : ∃ b, s[k]'hlt = b := ⟨_, rfl⟩
              have hb0 : ((b.toNat : Int) == 0) = false := beq_eq_false_iff_ne.2 (by
                intro h
                have hb : b = 0 := UInt8.toNat_inj.1 (by exact_mod_cast h)
                have hg := get_data s k hlt
                rw [hbb, hb] at hg
                exact HZ.out k hg)
              go_wp2
              go_round
              case rel => exact ⟨k + 1, by omega, by go_num⟩
              case measure => simp [RowKit.intOf]; omega
            · obtain rfl : k = s.size := by omega
              go_wp2_with fail
              clear hlt hk
              refine (rparts_calls s _ (by omega)).mono ?_
              rintro e w2 ⟨v2, rfl, ho2, hb2⟩
              obtain ⟨A2, c2, rfl, hc2, hC2⟩ := Kd.R_reads ho2
              have HP := Lib.hid hC2
              have hpl := partsL_length s
              have hps := partsL_sum s
              clear ho2 hC2
              generalize hps0 : partsL s = ps at *
              clear hps0
              cases hlong : ps.any longB
              · rw [hlong] at HQ
                simp only [Bool.false_eq_true, if_false] at HQ
                have HL : Hid (∀ k, (h : k < ps.length) → longB ps[k] = false) := Lib.hid (fun k h => by
                  have := List.any_eq_false.1 hlong ps[k] (List.getElem_mem h)
                  simpa using this)
                clear hlong
                go_wp2_with fail
                go_loop [10] (fun i => ∃ k : Nat, k ≤ ps.length ∧ i = .int .i64 k) (fun i => ps.length - (RowKit.intOf i).toNat)
                case atStart => exact ⟨0, by omega, rfl⟩
                case round =>
                  obtain ⟨k, hk, rfl⟩ := hrel
                  by_cases hlt : k < ps.length
                  · obtain ⟨ad, rfl, hx⟩ := Kd.at_string HP.out (k : Int) (by omega) (by omega)
                    rw [Int.toNat_natCast] at hx
                    have hb1 := HL.out k hlt
                    have he : rdOf ByteArray.empty ps (k : Int) = ps[k] := by simp [rdOf, hlt]
                    rw [he] at hx
                    clear he
                    generalize ps[k] = x at *
                    have hx2 : ¬ (255 < (x.size : Int)) := of_decide_eq_false hb1
                    have hx3 : (x.size : Int) ≤ 255 := by omega
                    go_wp2
                    go_round
                    case rel => exact ⟨k + 1, by omega, by go_num⟩
                    case measure => simp [RowKit.intOf]; omega
                  · obtain rfl : k = ps.length := by omega
                    clear hlt hk
                    go_wp2_with fail
                    refine (rcopy_calls A c a _ (Kd.C_below HR.out hb2) hc (by omega)).mono ?_
                    rintro e w3 ⟨v3, rfl, ho3, hb3⟩
                    obtain ⟨b, hbb⟩ : ∃ b, s[0]'hpos = b := ⟨_, rfl⟩
                    have hst : startL a s = if b = 47 then [] else a := by
                      unfold startL
                      have : s.data.toList.head? = some b := by rw [List.head?_eq_getElem?, List.getElem?_eq_getElem (by rw [← Lib.size_eq]; exact hpos), ← hbb]; rfl
                      rw [this]
                      simp
                    have hp0 : (0 : Int) < (s.size : Int) := by omega
                    have HO3 := Lib.hid ho3
                    clear ho3
                    cases h47 : (b == 47)
                    · have hne : ((b.toNat : Int) == 47) = false := by
                        rw [beq_eq_false_iff_ne]; intro h; have : b = 47 := UInt8.toNat_inj.1 (by exact_mod_cast h); rw [this] at h47; cases h47
                      have hb47 : ¬ b = 47 := by intro h; rw [h] at h47; cases h47
                      obtain ⟨L0, hLL⟩ : ∃ L0, startL a s = L0 := ⟨_, rfl⟩
                      have hL0 : L0 = a := by rw [← hLL, hst, if_neg hb47]
                      rw [hLL] at HQ
                      rw [← hL0] at HO3
                      have hl1 : L0.length ≤ a.length ∧ sumP L0 ≤ sumP a := by rw [hL0]; exact ⟨Nat.le_refl _, Int.le_refl _⟩
                      clear h47 hb47 hst hL0 hLL
                      have HV := HO3
                      go_wp2_with fail
                      go_loopw [11, 12] (fun v i wr => ∃ k : Nat, k ≤ ps.length ∧ i = .int .i64 k ∧ Hid (Kd.R Kd.string 9 wr w2.heap.size (fun _ => True) v ((ps.take k).foldl stepAt L0)) ∧ Below w2.heap.size w2 wr) (fun _ i _ => ps.length - (RowKit.intOf i).toNat)
                      case atStart => exact ⟨0, by omega, rfl, HV, hb3⟩
                      case round =>
                        obtain ⟨k, hk, rfl, HO, hb⟩ := hrel
                        have hsz4 := hb.size
                        have hf1 := foldl_length (ps.take k) L0
                        have hf2 := foldl_sum (ps.take k) L0
                        have hf3 := sumP_take_le ps k
                        rw [List.length_take] at hf1
                        by_cases hlt : k < ps.length
                        · obtain ⟨ad, rfl, hx⟩ := Kd.at_string HP.out (k : Int) (by omega) (by omega)
                          rw [Int.toNat_natCast] at hx
                          have hx2 := (hb.cell (World.block_lt_of_cell? w2 _ hx)).trans hx
                          clear hx
                          have he : rdOf ByteArray.empty ps (k : Int) = ps[k] := by simp [rdOf, hlt]
                          rw [he] at hx2
                          have HT : Hid ((ps.take (k + 1)).foldl stepAt L0 = stepAt ((ps.take k).foldl stepAt L0) ps[k]) := Lib.hid (by rw [List.take_succ_eq_append_getElem hlt, List.foldl_append]; rfl)
                          clear he
                          generalize ps[k] = x at *
                          generalize (ps.take k).foldl stepAt L0 = q at *
                          obtain ⟨A4, c4, hv4, hc4, hC4⟩ := Kd.R_reads HO.out
                          cases e1 : x.toList.isEmpty
                          · cases e2 : (x.toList == [46])
                            · cases e3 : (x.toList == [46, 46])
                              · have HT2 : Hid ((ps.take (k + 1)).foldl stepAt L0 = q ++ [x]) := Lib.hid (by rw [HT.out]; simp [stepAt, e1, e2, e3])
                                clear HT hv4 hc4 hC4
                                go_wp2_with (at_builtin; refine Kd.R_append Kd.string (w0 := w2) w2.heap.size rfl (.tmp 59) (.tmp 64) 27 9 (.string ⟨#[]⟩) 16 rfl Tryd.underlying27 info_str rfl (by decide) (by decide) _ q x [.string x] (fun _ => True) (fun _ => False) rfl rfl ?aP (fun _ hk => hk.elim) ?aF ?aO ?aB ?aS ?aL ?_; (case aP => exact rfl); (case aF => exact (fun _ _ => trivial)); (case aO => exact HO.out); (case aB => exact hb); (case aS => exact hsz4); (case aL => omega); intro v1 w4 ho hb4 hg hat)
                                go_roundw
                                case rel => exact ⟨k + 1, by omega, by go_num, Lib.hid (by rw [HT2.out]; exact ho), hb4⟩
                                case measure => simp [RowKit.intOf]; omega
                              · have HT2 : Hid ((ps.take (k + 1)).foldl stepAt L0 = q.dropLast) := Lib.hid (by rw [HT.out]; simp [stepAt, e1, e2, e3])
                                clear HT hC4
                                rcases Nat.eq_zero_or_pos q.length with hq | hq
                                · obtain rfl := List.length_eq_zero_iff.1 hq
                                  rw [hv4] at HO ⊢
                                  have hq0 : ((0 : Nat) : Int) = 0 := rfl
                                  go_wp2
                                  go_roundw
                                  case rel => exact ⟨k + 1, by omega, by go_num, Lib.hid (by rw [HT2.out]; exact HO.out), hb⟩
                                  case measure => simp [RowKit.intOf]; omega
                                · obtain ⟨m, hm⟩ : ∃ m, q.length = m + 1 := ⟨q.length - 1, by omega⟩
                                  have cut : ∀ W, (Instr.slice 27 (.slice A4 (m + 1) c4) none (some (.int .i64 (m : Int))) none).run Tryd.prog W = .ok (.slice A4 m c4) W := by
                                    obtain ⟨i9, hi9, hz9, hz1, hz2⟩ := info_parts info_str
                                    have := (print_take_of (P := Tryd.prog) Value.string ByteArray.empty 27 9 .i64 Tryd.underlying27 hi9 hz1 A4 c4 q m (by omega) (by omega) hc4).1
                                    rw [Int.toNat_natCast, List.length_take, hm, Nat.min_eq_left (by omega)] at this
                                    exact this
                                  rw [hm] at hv4
                                  rw [hv4] at HO ⊢
                                  have HR1 := Lib.hid (Kd.R_take HO.out (m := m) (by omega))
                                  have HT3 : Hid ((ps.take (k + 1)).foldl stepAt L0 = q.take m) := Lib.hid (by rw [HT2.out, List.dropLast_eq_take, hm]; rfl)
                                  have hkk : (m : Int) ≤ 1099511630000 := by omega
                                  clear HT2
                                  go_wp2
                                  go_roundw
                                  case rel => exact ⟨k + 1, by omega, by go_num, Lib.hid (by rw [HT3.out]; exact HR1.out), hb⟩
                                  case measure => simp [RowKit.intOf]; omega
                            · have HT2 : Hid ((ps.take (k + 1)).foldl stepAt L0 = q) := Lib.hid (by rw [HT.out]; simp [stepAt, e1, e2])
                              clear HT hv4 hc4 hC4
                              go_wp2
                              go_roundw
                              case rel => exact ⟨k + 1, by omega, by go_num, Lib.hid (by rw [HT2.out]; exact HO.out), hb⟩
                              case measure => simp [RowKit.intOf]; omega
                          · have HT2 : Hid ((ps.take (k + 1)).foldl stepAt L0 = q) := Lib.hid (by rw [HT.out]; simp [stepAt, e1])
                            clear HT hv4 hc4 hC4
                            go_wp2
                            go_roundw
                            case rel => exact ⟨k + 1, by omega, by go_num, Lib.hid (by rw [HT2.out]; exact HO.out), hb⟩
                            case measure => simp [RowKit.intOf]; omega
                        · obtain rfl : k = ps.length := by omega
                          rw [List.take_length] at HO hf1 hf2
                          clear hlt hk
                          generalize ps.foldl stepAt L0 = q at *
                          obtain ⟨A4, c4, hv4, hc4, hC4⟩ := Kd.R_reads HO.out
                          rw [hv4]
                          clear hv4
                          have HC4 := Lib.hid hC4
                          clear hC4
                          have HG := rsize_gt q
                          have H4 := Lib.hid (fun W h => rsize_calls A4 c4 q W h hc4 (by omega) (by omega))
                          have H5 := Lib.hid (fun W h => rcopy_calls A4 c4 q W h hc4 (by omega))
                          go_wp2_with fail
                          refine (H4.out _ HC4.out).mono ?_
                          rintro e w5 ⟨rfl, hw5⟩
                          rw [hw5]
                          by_cases hsz6 : sizeP q ≤ 1024
                          · rw [if_pos hsz6] at HQ
                            rw [decide_eq_true hsz6] at HG
                            simp only [Bool.not_true] at HG
                            have hpn : 0 < ps.length := by
                              rcases Nat.eq_zero_or_pos ps.length with h | h
                              · have hx : ps = [] := List.length_eq_zero_iff.1 h
                                rw [hx] at hps
                                simp [sumP] at hps
                                omega
                              · exact h
                            obtain ⟨ad, rfl, hx⟩ := Kd.at_string HP.out ((ps.length - 1 : Nat) : Int) (by omega) (by omega)
                            rw [Int.toNat_natCast] at hx
                            have hx2 := (hb.cell (World.block_lt_of_cell? w2 _ hx)).trans hx
                            have he : rdOf ByteArray.empty ps ((ps.length - 1 : Nat) : Int) = ps.getLastD ⟨#[]⟩ := by
                              rw [List.getLastD_eq_getLast?, List.getLast?_eq_getElem?]
                              simp [rdOf, List.getD]
                              rw [List.getElem?_eq_getElem (by omega)]
                              simp
                            rw [he] at hx2
                            clear hx he
                            unfold dirB at HQ
                            generalize ps.getLastD ⟨#[]⟩ = last at *
                            obtain ⟨m, hm⟩ : ∃ m, ps.length = m + 1 := ⟨ps.length - 1, by omega⟩
                            rw [hm] at hx2 HP ⊢
                            simp only [Nat.add_sub_cancel] at hx2
                            have hm2 : (m : Int) ≤ 1099511627776 := by omega
                            clear hpn hf1 hf2 hf3 hps hpl
                            have HQ3 := Lib.hid HQ.out
                            go_wp2_with fail
                            refine (H5.out _ HC4.out).mono ?_
                            rintro e w6 ⟨v6, rfl, ho6, hb6⟩
                            have hbz := bstep hb2 hb2.size (bstep hb hb.size hb6)
                            have HO6 := Lib.hid (Kd.R_lower ho6 (Nat.le_trans hb2.size hb.size))
                            clear ho6 hb6
                            cases d1 : last.toList.isEmpty
                            · cases d2 : (last.toList == [46])
                              · cases d3 : (last.toList == [46, 46])
                                all_goals
                                  rw [d1, d2, d3] at HQ3
                                  go_wp2_with fail
                                  go_ret3
                                  exact ⟨_, by rw [HQ3.out]; rfl, by rw [HQ3.out]; exact HO6.out, hbz⟩
                              · rw [d1, d2] at HQ3
                                go_wp2_with fail
                                go_ret3
                                exact ⟨_, by rw [HQ3.out]; rfl, by rw [HQ3.out]; exact HO6.out, hbz⟩
                            · rw [d1] at HQ3
                              go_wp2_with fail
                              go_ret3
                              exact ⟨_, by rw [HQ3.out]; rfl, by rw [HQ3.out]; exact HO6.out, hbz⟩
                          · rw [if_neg hsz6] at HQ
                            have HQ3 := Lib.hid HQ.out
                            rw [decide_eq_false hsz6] at HG
                            simp only [Bool.not_false] at HG
                            go_wp2_with fail
                            go_ret3
                            exact ⟨_, by rw [HQ3.out]; rfl, by rw [HQ3.out]; exact Kd.R_nil _ _ _ _ _, bstep hb2 hb2.size hb⟩
                    · have hne : ((b.toNat : Int) == 47) = true := by
                        have : b = 47 := by simpa using h47
                        rw [this]; rfl
                      have hb47 : b = 47 := by simpa using h47
                      obtain ⟨L0, hLL⟩ : ∃ L0, startL a s = L0 := ⟨_, rfl⟩
                      have hL0 : L0 = [] := by rw [← hLL, hst, if_pos hb47]
                      rw [hLL] at HQ
                      have hl1 : L0.length ≤ a.length ∧ sumP L0 ≤ sumP a := by have := sumP_nonneg a; rw [hL0]; exact ⟨by simp, by simpa [sumP] using this⟩
                      have HV : ∀ W, Hid (Kd.R Kd.string 9 W w2.heap.size (fun _ => True) (.slice none 0 0) L0) := fun W => Lib.hid (by rw [hL0]; exact Kd.R_nil _ _ _ _ _)
                      clear h47 hb47 hst hL0 hLL
                      go_wp2_with fail
                      go_loopw [11, 12] (fun v i wr => ∃ k : Nat, k ≤ ps.length ∧ i = .int .i64 k ∧ Hid (Kd.R Kd.string 9 wr w2.heap.size (fun _ => True) v ((ps.take k).foldl stepAt L0)) ∧ Below w2.heap.size w2 wr) (fun _ i _ => ps.length - (RowKit.intOf i).toNat)
                      case atStart => exact ⟨0, by omega, rfl, HV _, hb3⟩
                      case round =>
                        obtain ⟨k, hk, rfl, HO, hb⟩ := hrel
                        have hsz4 := hb.size
                        have hf1 := foldl_length (ps.take k) L0
                        have hf2 := foldl_sum (ps.take k) L0
                        have hf3 := sumP_take_le ps k
                        rw [List.length_take] at hf1
                        by_cases hlt : k < ps.length
                        · obtain ⟨ad, rfl, hx⟩ := Kd.at_string HP.out (k : Int) (by omega) (by omega)
                          rw [Int.toNat_natCast] at hx
                          have hx2 := (hb.cell (World.block_lt_of_cell? w2 _ hx)).trans hx
                          clear hx
                          have he : rdOf ByteArray.empty ps (k : Int) = ps[k] := by simp [rdOf, hlt]
                          rw [he] at hx2
                          have HT : Hid ((ps.take (k + 1)).foldl stepAt L0 = stepAt ((ps.take k).foldl stepAt L0) ps[k]) := Lib.hid (by rw [List.take_succ_eq_append_getElem hlt, List.foldl_append]; rfl)
                          clear he
                          generalize ps[k] = x at *
                          generalize (ps.take k).foldl stepAt L0 = q at *
                          obtain ⟨A4, c4, hv4, hc4, hC4⟩ := Kd.R_reads HO.out
                          cases e1 : x.toList.isEmpty
                          · cases e2 : (x.toList == [46])
                            · cases e3 : (x.toList == [46, 46])
                              · have HT2 : Hid ((ps.take (k + 1)).foldl stepAt L0 = q ++ [x]) := Lib.hid (by rw [HT.out]; simp [stepAt, e1, e2, e3])
                                clear HT hv4 hc4 hC4
                                go_wp2_with (at_builtin; refine Kd.R_append Kd.string (w0 := w2) w2.heap.size rfl (.tmp 59) (.tmp 64) 27 9 (.string ⟨#[]⟩) 16 rfl Tryd.underlying27 info_str rfl (by decide) (by decide) _ q x [.string x] (fun _ => True) (fun _ => False) rfl rfl ?aP (fun _ hk => hk.elim) ?aF ?aO ?aB ?aS ?aL ?_; (case aP => exact rfl); (case aF => exact (fun _ _ => trivial)); (case aO => exact HO.out); (case aB => exact hb); (case aS => exact hsz4); (case aL => omega); intro v1 w4 ho hb4 hg hat)
                                go_roundw
                                case rel => exact ⟨k + 1, by omega, by go_num, Lib.hid (by rw [HT2.out]; exact ho), hb4⟩
                                case measure => simp [RowKit.intOf]; omega
                              · have HT2 : Hid ((ps.take (k + 1)).foldl stepAt L0 = q.dropLast) := Lib.hid (by rw [HT.out]; simp [stepAt, e1, e2, e3])
                                clear HT hC4
                                rcases Nat.eq_zero_or_pos q.length with hq | hq
                                · obtain rfl := List.length_eq_zero_iff.1 hq
                                  rw [hv4] at HO ⊢
                                  have hq0 : ((0 : Nat) : Int) = 0 := rfl
                                  go_wp2
                                  go_roundw
                                  case rel => exact ⟨k + 1, by omega, by go_num, Lib.hid (by rw [HT2.out]; exact HO.out), hb⟩
                                  case measure => simp [RowKit.intOf]; omega
                                · obtain ⟨m, hm⟩ : ∃ m, q.length = m + 1 := ⟨q.length - 1, by omega⟩
                                  have cut : ∀ W, (Instr.slice 27 (.slice A4 (m + 1) c4) none (some (.int .i64 (m : Int))) none).run Tryd.prog W = .ok (.slice A4 m c4) W := by
                                    obtain ⟨i9, hi9, hz9, hz1, hz2⟩ := info_parts info_str
                                    have := (print_take_of (P := Tryd.prog) Value.string ByteArray.empty 27 9 .i64 Tryd.underlying27 hi9 hz1 A4 c4 q m (by omega) (by omega) hc4).1
                                    rw [Int.toNat_natCast, List.length_take, hm, Nat.min_eq_left (by omega)] at this
                                    exact this
                                  rw [hm] at hv4
                                  rw [hv4] at HO ⊢
                                  have HR1 := Lib.hid (Kd.R_take HO.out (m := m) (by omega))
                                  have HT3 : Hid ((ps.take (k + 1)).foldl stepAt L0 = q.take m) := Lib.hid (by rw [HT2.out, List.dropLast_eq_take, hm]; rfl)
                                  have hkk : (m : Int) ≤ 1099511630000 := by omega
                                  clear HT2
                                  go_wp2
                                  go_roundw
                                  case rel => exact ⟨k + 1, by omega, by go_num, Lib.hid (by rw [HT3.out]; exact HR1.out), hb⟩
                                  case measure => simp [RowKit.intOf]; omega
                            · have HT2 : Hid ((ps.take (k + 1)).foldl stepAt L0 = q) := Lib.hid (by rw [HT.out]; simp [stepAt, e1, e2])
                              clear HT hv4 hc4 hC4
                              go_wp2
                              go_roundw
                              case rel => exact ⟨k + 1, by omega, by go_num, Lib.hid (by rw [HT2.out]; exact HO.out), hb⟩
                              case measure => simp [RowKit.intOf]; omega
                          · have HT2 : Hid ((ps.take (k + 1)).foldl stepAt L0 = q) := Lib.hid (by rw [HT.out]; simp [stepAt, e1])
                            clear HT hv4 hc4 hC4
                            go_wp2
                            go_roundw
                            case rel => exact ⟨k + 1, by omega, by go_num, Lib.hid (by rw [HT2.out]; exact HO.out), hb⟩
                            case measure => simp [RowKit.intOf]; omega
                        · obtain rfl : k = ps.length := by omega
                          rw [List.take_length] at HO hf1 hf2
                          clear hlt hk
                          generalize ps.foldl stepAt L0 = q at *
                          obtain ⟨A4, c4, hv4, hc4, hC4⟩ := Kd.R_reads HO.out
                          rw [hv4]
                          clear hv4
                          have HC4 := Lib.hid hC4
                          clear hC4
                          have HG := rsize_gt q
                          have H4 := Lib.hid (fun W h => rsize_calls A4 c4 q W h hc4 (by omega) (by omega))
                          have H5 := Lib.hid (fun W h => rcopy_calls A4 c4 q W h hc4 (by omega))
                          go_wp2_with fail
                          refine (H4.out _ HC4.out).mono ?_
                          rintro e w5 ⟨rfl, hw5⟩
                          rw [hw5]
                          by_cases hsz6 : sizeP q ≤ 1024
                          · rw [if_pos hsz6] at HQ
                            rw [decide_eq_true hsz6] at HG
                            simp only [Bool.not_true] at HG
                            have hpn : 0 < ps.length := by
                              rcases Nat.eq_zero_or_pos ps.length with h | h
                              · have hx : ps = [] := List.length_eq_zero_iff.1 h
                                rw [hx] at hps
                                simp [sumP] at hps
                                omega
                              · exact h
                            obtain ⟨ad, rfl, hx⟩ := Kd.at_string HP.out ((ps.length - 1 : Nat) : Int) (by omega) (by omega)
                            rw [Int.toNat_natCast] at hx
                            have hx2 := (hb.cell (World.block_lt_of_cell? w2 _ hx)).trans hx
                            have he : rdOf ByteArray.empty ps ((ps.length - 1 : Nat) : Int) = ps.getLastD ⟨#[]⟩ := by
                              rw [List.getLastD_eq_getLast?, List.getLast?_eq_getElem?]
                              simp [rdOf, List.getD]
                              rw [List.getElem?_eq_getElem (by omega)]
                              simp
                            rw [he] at hx2
                            clear hx he
                            unfold dirB at HQ
                            generalize ps.getLastD ⟨#[]⟩ = last at *
                            obtain ⟨m, hm⟩ : ∃ m, ps.length = m + 1 := ⟨ps.length - 1, by omega⟩
                            rw [hm] at hx2 HP ⊢
                            simp only [Nat.add_sub_cancel] at hx2
                            have hm2 : (m : Int) ≤ 1099511627776 := by omega
                            clear hpn hf1 hf2 hf3 hps hpl
                            have HQ3 := Lib.hid HQ.out
                            go_wp2_with fail
                            refine (H5.out _ HC4.out).mono ?_
                            rintro e w6 ⟨v6, rfl, ho6, hb6⟩
                            have hbz := bstep hb2 hb2.size (bstep hb hb.size hb6)
                            have HO6 := Lib.hid (Kd.R_lower ho6 (Nat.le_trans hb2.size hb.size))
                            clear ho6 hb6
                            cases d1 : last.toList.isEmpty
                            · cases d2 : (last.toList == [46])
                              · cases d3 : (last.toList == [46, 46])
                                all_goals
                                  rw [d1, d2, d3] at HQ3
                                  go_wp2_with fail
                                  go_ret3
                                  exact ⟨_, by rw [HQ3.out]; rfl, by rw [HQ3.out]; exact HO6.out, hbz⟩
                              · rw [d1, d2] at HQ3
                                go_wp2_with fail
                                go_ret3
                                exact ⟨_, by rw [HQ3.out]; rfl, by rw [HQ3.out]; exact HO6.out, hbz⟩
                            · rw [d1] at HQ3
                              go_wp2_with fail
                              go_ret3
                              exact ⟨_, by rw [HQ3.out]; rfl, by rw [HQ3.out]; exact HO6.out, hbz⟩
                          · rw [if_neg hsz6] at HQ
                            have HQ3 := Lib.hid HQ.out
                            rw [decide_eq_false hsz6] at HG
                            simp only [Bool.not_false] at HG
                            go_wp2_with fail
                            go_ret3
                            exact ⟨_, by rw [HQ3.out]; rfl, by rw [HQ3.out]; exact Kd.R_nil _ _ _ _ _, bstep hb2 hb2.size hb⟩
              · have HQ2 : Hid (Q = ([], false, 20)) := Lib.hid (by rw [HQ.out, hlong]; rfl)
                obtain ⟨x0, hx0, hx1⟩ := List.any_eq_true.1 hlong
                obtain ⟨o, ho, ho2⟩ := List.mem_iff_getElem.1 hx0
                have HO : Hid (ps[o]? = some x0) := Lib.hid (by rw [List.getElem?_eq_getElem ho, ho2])
                have HX := Lib.hid hx1
                clear HQ hlong hx0 ho2 hx1
                go_wp2_with fail
                go_loop [10] (fun i => ∃ k : Nat, k ≤ o ∧ i = .int .i64 k) (fun i => ps.length - (RowKit.intOf i).toNat)
                case atStart => exact ⟨0, by omega, rfl⟩
                case round =>
                  obtain ⟨k, hk, rfl⟩ := hrel
                  have hlt : k < ps.length := by omega
                  obtain ⟨ad, rfl, hx⟩ := Kd.at_string HP.out (k : Int) (by omega) (by omega)
                  rw [Int.toNat_natCast] at hx
                  have he : rdOf ByteArray.empty ps (k : Int) = ps[k] := by simp [rdOf, hlt]
                  rw [he] at hx
                  have HG : Hid (ps[k]? = some ps[k]) := Lib.hid (List.getElem?_eq_getElem hlt)
                  clear he
                  generalize ps[k] = x at *
                  by_cases hx2 : 255 < (x.size : Int)
                  · go_wp2
                    go_ret3
                    exact ⟨_, by rw [HQ2.out]; rfl, by rw [HQ2.out]; exact Kd.R_nil _ _ _ _ _, hb2⟩
                  · have hko : k ≠ o := by
                      rintro rfl
                      have := HG.out.symm.trans HO.out
                      injection this with this
                      rw [this] at hx2
                      exact hx2 (of_decide_eq_true HX.out)
                    have hx3 : (x.size : Int) ≤ 255 := by omega
                    go_wp2
                    go_round
                    case rel => exact ⟨k + 1, by omega, by go_num⟩
                    case measure => simp [RowKit.intOf]; omega
        · obtain ⟨o, ho1, ho2⟩ := zero_some hz
          have HQ2 : Hid (Q = ([], false, 20)) := Lib.hid (by rw [HQ.out, hz]; rfl)
          clear HQ hz
          have HO := Lib.hid ho2
          clear ho2
          go_wp2_with fail
          go_loop [8] (fun i => ∃ k : Nat, k ≤ o ∧ i = .int .i64 k) (fun i => s.size - (RowKit.intOf i).toNat)
          case atStart => exact ⟨0, by omega, rfl⟩
          case round =>
            obtain ⟨k, hk, rfl⟩ := hrel
            have hlt : k < s.size := by omega
            obtain ⟨b, hbb⟩ : ∃ b, s[k]'hlt = b := ⟨_, rfl⟩
            have hg := get_data s k hlt
            rw [hbb] at hg
            have HG := Lib.hid hg
            clear hg
            cases h0 : ((b.toNat : Int) == 0)
            · have hko : k ≠ o := by
                rintro rfl
                have := HG.out.symm.trans HO.out
                injection this with this
                rw [this] at h0
                cases h0
              go_wp2
              go_round
              case rel => exact ⟨k + 1, by omega, by go_num⟩
              case measure => simp [RowKit.intOf]; omega
            · go_wp2
              go_ret3
              exact ⟨_, by rw [HQ2.out]; rfl, by rw [HQ2.out]; exact Kd.R_nil _ _ _ _ _, Below.refl _ _⟩
      · have HQ2 : Hid (Q = ([], false, 20)) := Lib.hid (by rw [HQ.out, he]; rfl)
        clear HQ
        go_wp2_with fail
        go_ret3
        exact ⟨_, by rw [HQ2.out]; rfl, by rw [HQ2.out]; exact Kd.R_nil _ _ _ _ _, Below.refl _ _⟩
    · have HQ2 : Hid (Q = ([], false, 4)) := Lib.hid (by rw [HQ.out, if_neg hsz])
      clear HQ
      go_wp2_with fail
      go_ret3
      exact ⟨_, by rw [HQ2.out]; rfl, by rw [HQ2.out]; exact Kd.R_nil _ _ _ _ _, Below.refl _ _⟩
end
end Go.Proofs.YthlcjjhfkldmhaaDoor.P
