/- The law VfsReals, walked. Printed by wip/tools/gen_lvreals.py. -/
import Derived.Test.YthlcjjhfkldmhaaDoorVRealP
import Derived.Test.YthlcjjhfkldmhaaDoorVGet
import Derived.Test.YthlcjjhfkldmhaaDoorVBegins
set_option linter.unusedVariables false
set_option linter.unusedSimpArgs false
namespace Go.Proofs.YthlcjjhfkldmhaaDoor.G
open Go.RowKit Go.Lib Go.Proofs.YthlcjjhfkldmhaaDoorW.PrintWords Go.Proofs.YthlcjjhfkldmhaaDoorW.PrintLast
set_option linter.unusedVariables false
set_option linter.unusedSimpArgs false

set_option maxHeartbeats 8000000 in
set_option maxRecDepth 100000 in
theorem lvreals_calls (t : File) (A : Option Addr) (c : Nat) (Ap : Option Addr) (cp : Nat) (p : List ByteArray) (last : Bool) (w : World) (ht : FileK.C w A t.files.length t.files) (hc : t.files.length ≤ c) (hbt : t.bulk ≤ 1048576) (hp : Kd.C Kd.string w Ap p.length p) (hcp : p.length ≤ cp) (hps : P.sumP p ≤ 1048576) :
    Calls Tryd.prog 6 #[fileV t A c, .slice Ap p.length cp, .bool last] w fun e w' => e = .returned (.bool true) ∧ Below w.heap.size w w' := by
  have HT := Lib.hid ht
  have HP := Lib.hid hp
  have hpl := P.sumP_len p
  have hax := below_alloc (Below.refl w.heap.size w) (.cells #[.string t.name, .int .u8 t.kind, .string t.data, .slice A t.files.length c] 25)
  have HX0 := Lib.hid (blk_new w (.cells #[.string t.name, .int .u8 t.kind, .string t.data, .slice A t.files.length c] 25))
  have HAX := Lib.hid hax
  obtain ⟨⟨q, why⟩, hres⟩ : ∃ r, realR t p last = r := ⟨_, rfl⟩
  have HRS := Lib.hid hres
  clear ht hp hax hres
  go_enter Tryd.func6, Tryd.ntmps6
  unfold fileV
  go_wp2_with fail
  generalize (w.alloc (.cells #[.string t.name, .int .u8 t.kind, .string t.data, .slice A t.files.length c] 25)) = W0 at *
  have hs0 := HAX.out.size
  refine (begins_calls W0).mono ?_
  rintro e w1 ⟨rfl, hq1⟩
  have hb1 := HAX.out.trans (hq1.mono hs0)
  have hs1 := hq1.size
  have HX1 := Lib.hid ((hq1.block _ (blk_lt HX0.out)).trans HX0.out)
  have l0 := cell_of (j := 0) HX1.out rfl
  have l1 := cell_of (j := 1) HX1.out rfl
  have l2 := cell_of (j := 2) HX1.out rfl
  have l3 := cell_of (j := 3) HX1.out rfl
  go_wp2_with fail
  clear l0 l1 l2 l3
  have hrc := real_calls t A c Ap cp p last w1 (Kd.C_below HT.out hb1) hc (by omega) (Kd.C_below HP.out hb1) hcp (by omega) (by omega)
  rw [HRS.out] at hrc
  refine hrc.mono ?_
  clear hrc
  rintro e w2 ⟨B, d, rfl, hd, hC, hq2⟩
  simp only at hd hC ⊢
  have hb2 := hb1.trans (hq2.mono hb1.size)
  have hs2 := hq2.size
  have HC2 := Lib.hid hC
  have HX2 := Lib.hid ((hq2.block _ (blk_lt HX1.out)).trans HX1.out)
  have HB2 := Lib.hid hb2
  clear hC hq1 hq2 hb1 HX0 HX1
  by_cases hw : why = 0
  rotate_left
  · skip
    have hq0 : q = [] := by have h := real_bad (t := t) (p := p) (last := last) (by rw [HRS.out]; exact hw); rw [HRS.out] at h; exact h
    subst hq0
    have hwb : (why != 0) = true := by rw [bne_iff_ne]; exact hw
    clear hw
    go_wp2_with fail
    go_ret
    exact ⟨rfl, hb2⟩
  subst hw
  have HOK := Lib.hid (show (realR t p last).2 = 0 by rw [HRS.out])
  have hql : q.length ≤ 64 := by
    obtain ⟨h1, h2, h3, h4⟩ := real_good HOK.out
    have h5 := ((walk_sound t (right_wrong h1).2 p last).2 h3).1
    rw [← h4, HRS.out] at h5
    exact h5
  have hqs : P.sumP q ≤ 1099511627776 := by
    obtain ⟨h1, h2, h3, h4⟩ := real_good HOK.out
    have h5 := walk_sum t p last
    rw [← h4, HRS.out] at h5
    simp only at h5
    omega
  go_wp2_with fail
  refine (P.rright_calls B d q w2 HC2.out hd (by omega) (by omega)).mono ?_
  rintro e w3 ⟨rfl, rfl⟩
  obtain ⟨b1, hb1⟩ : ∃ b, P.rightB q = b := ⟨_, rfl⟩
  have HR1 := Lib.hid hb1
  rw [hb1]
  clear hb1
  cases b1
  · skip
    go_wp2_with fail
    go_ret
    exact ⟨rfl, HB2.out⟩
  have l0 := cell_of (j := 0) HX2.out rfl
  have l1 := cell_of (j := 1) HX2.out rfl
  have l2 := cell_of (j := 2) HX2.out rfl
  have l3 := cell_of (j := 3) HX2.out rfl
  go_wp2_with fail
  clear l0 l1 l2 l3
  obtain ⟨⟨y, k1⟩, hy⟩ : ∃ r, getR t q = r := ⟨_, rfl⟩
  have HY := Lib.hid hy
  have hgc := Get_calls t A c B d q w3 (Kd.C_below HT.out hb2) hc (by omega) HC2.out hd (by omega)
  rw [hy] at hgc
  refine (show Calls Tryd.prog 26 #[.agg #[.string t.name, .int .u8 t.kind, .string t.data, .slice A t.files.length c], .slice B q.length d] w3 _ from hgc).mono ?_
  clear hgc hy
  rintro e w4 ⟨v4, rfl, hR4, hq4⟩
  simp only
  obtain ⟨A4, c4, rfl⟩ := Kd.R_slice hR4
  clear hR4
  have hb4 := bstep hb2 hb2.size hq4
  have HX4 := Lib.hid ((hq4.block _ (blk_lt HX2.out)).trans HX2.out)
  have HC4 := Lib.hid (Kd.C_below HC2.out hq4)
  have hs4 := hq4.size
  have HA4 := Lib.hid (below_alloc (Below.refl w4.heap.size w4) (.cells #[.string y.name, .int .u8 y.kind, .string y.data, .slice A4 y.files.length c4] 25))
  have HY4 := Lib.hid (blk_new w4 (.cells #[.string y.name, .int .u8 y.kind, .string y.data, .slice A4 y.files.length c4] 25))
  have HX5 := Lib.hid ((HA4.out.block _ (blk_lt HX4.out)).trans HX4.out)
  have HB5 := Lib.hid (bstep hb4 hb4.size HA4.out)
  have HC5 := Lib.hid (Kd.C_below HC4.out HA4.out)
  obtain ⟨W5, hW5⟩ : ∃ W, w4.alloc (.cells #[.string y.name, .int .u8 y.kind, .string y.data, .slice A4 y.files.length c4] 25) = W := ⟨_, rfl⟩
  rw [hW5] at HA4 HY4 HX5 HB5 HC5
  have hs5 := HA4.out.size
  have y1 := cell_of (j := 1) HY4.out rfl
  have l0 := cell_of (j := 0) HX5.out rfl
  have l1 := cell_of (j := 1) HX5.out rfl
  have l2 := cell_of (j := 2) HX5.out rfl
  have l3 := cell_of (j := 3) HX5.out rfl
  clear hb2 hb4 hq4
  by_cases hlk : k1 = 0 ∧ y.kind = 3
  rotate_left
  · skip
    have HAG := Lib.hid (show realR t q true = (q, 0) from by
      have h := real_again HOK.out (by rw [HRS.out]; exact HR1.out) (by rw [HRS.out]; simp only; rw [HY.out]; exact hlk)
      rw [HRS.out] at h
      exact h)
    have hkb : (k1 == 0) = false ∨ ((k1 == 0) = true ∧ (y.kind == 3) = false) := by
      by_cases h : k1 = 0
      · exact .inr ⟨beq_iff_eq.2 h, beq_eq_false_iff_ne.2 fun h3 => hlk ⟨h, h3⟩⟩
      · exact .inl (beq_eq_false_iff_ne.2 h)
    clear hlk
    have HJ : Hid (∀ W : World, True) := Lib.hid fun _ => trivial
    rcases hkb with hk0 | ⟨hk0, hk3⟩
    · skip
      go_wp2_with fail
      clear l0 l1 l2 l3 y1
      have hrc := real_calls t A c B d q true W5 (Kd.C_below HT.out HB5.out) hc (by omega) HC5.out hd (by omega) (by omega)
      rw [HAG.out] at hrc
      refine (show Calls Tryd.prog 12 #[.agg #[.string t.name, .int .u8 t.kind, .string t.data, .slice A t.files.length c], .slice B q.length d, .bool true] W5 _ from hrc).mono ?_
      clear hrc
      rintro e w6 ⟨B6, d6, rfl, hd6, hC6, hq6⟩
      simp only at hd6 hC6 ⊢
      have HC6 := Lib.hid hC6
      clear hC6
      go_wp2_with fail
      refine (rsame_one B d B6 d6 q w6 (Kd.C_below HC5.out hq6) hd HC6.out hd6 (by omega)).mono ?_
      rintro e w7 ⟨rfl, hq7⟩
      have hqR := hq6.trans (hq7.mono hq6.size)
      go_wp2_with fail
      go_loopw [14] (fun i wr => ∃ k : Nat, 1 ≤ k ∧ k ≤ p.length + 1 ∧ i = .int .i64 k ∧ Hid (Below W5.heap.size W5 wr) ∧ Hid (∀ m, 1 ≤ m → m < k → ¬ ((getR t (p.take m)).2 = 0 ∧ (getR t (p.take m)).1.kind = 3 ∧ (m < p.length ∨ last = true)))) (fun i _ => p.length + 1 - (RowKit.intOf i).toNat)
      case atStart => exact ⟨1, Nat.le_refl _, by omega, rfl, Lib.hid (hqR), Lib.hid fun m h1 h2 => by omega⟩
      case round =>
        obtain ⟨k, hk1, hk, rfl, HBL, HM⟩ := hrel
        have HBR := Lib.hid (HB5.out.trans (HBL.out.mono HB5.out.size))
        by_cases q1 : k ≤ p.length
        · obtain ⟨⟨g, k2⟩, hg⟩ : ∃ r, getR t (p.take k) = r := ⟨_, rfl⟩
          have HG := Lib.hid hg
          have htl : (p.take k).length = k := by rw [List.length_take]; omega
          have HGC : Hid (∀ W, Below wr.heap.size wr W → Calls Tryd.prog 26 #[.agg #[.string t.name, .int .u8 t.kind, .string t.data, .slice A t.files.length c], .slice Ap k cp] W fun e w' => ∃ A6 c6, e = .returned (.tuple #[.agg #[.string g.name, .int .u8 g.kind, .string g.data, .slice A6 g.files.length c6], .int .i64 k2]) ∧ Below W.heap.size W w') := Lib.hid fun W hW => by
            have hWb := HBR.out.trans (hW.mono HBR.out.size)
            have h := Get_calls t A c Ap cp (p.take k) W (Kd.C_below HT.out hWb) hc (by omega) (Kd.C_take (Kd.C_below HP.out hWb) q1) (by omega) (by omega)
            rw [htl, HG.out] at h
            refine (show Calls Tryd.prog 26 #[.agg #[.string t.name, .int .u8 t.kind, .string t.data, .slice A t.files.length c], .slice Ap k cp] W _ from h).mono ?_
            rintro e w' ⟨v, rfl, hR, hb⟩
            obtain ⟨A6, c6, rfl⟩ := Kd.R_slice hR
            exact ⟨A6, c6, rfl, hb⟩
          have HHX : Hid (∀ W, Below wr.heap.size wr W → W.heap[w.heap.size]? = some (.cells #[.string t.name, .int .u8 t.kind, .string t.data, .slice A t.files.length c] 25 (0, 0))) := Lib.hid fun W hW => ((HBL.out.trans (hW.mono HBL.out.size)).block _ (blk_lt HX5.out)).trans HX5.out
          have g1 : (k : Int) ≤ (p.length : Int) := by omega
          have hkc : k ≤ cp := by omega
          have hsz := HBR.out.size
          clear hg
          go_wp2_with fail
          refine start_ (n := 11) (S := fun w' => w'.heap[w.heap.size]? = some (.cells #[.string t.name, .int .u8 t.kind, .string t.data, .slice A t.files.length c] 25 (0, 0))) (ds := [9]) (bq 11 0) (by kernel_rfl) rfl rfl (HHX.out _ (bdrew (Below.refl wr.heap.size wr))) (fun hHeld => ?_)
          refine pure_ (i := 1) (N := some 71) (v := ?_) (a' := ?_) (bq 11 2) rfl rfl (by kernel_rfl) (fun _ _ _ h => h) (Or.inl ⟨by rfl, ?_⟩) ?_ ?_
          rotate_left
          · intro w'
            go_simp
            with_reducible rfl
          rotate_left
          · simp only [Act.put, List.setIfInBounds_toArray, List.set_cons_zero, List.set_cons_succ, i64_w, i32_w]
            rfl
          refine pure_ (i := 2) (N := some 72) (v := ?_) (a' := ?_) (bq 11 6) rfl rfl (by kernel_rfl) (fun _ _ _ h => h) (Or.inl ⟨by rfl, ?_⟩) ?_ ?_
          rotate_left
          · intro w'
            go_simp
            with_reducible rfl
          rotate_left
          · simp only [Act.put, List.setIfInBounds_toArray, List.set_cons_zero, List.set_cons_succ, i64_w, i32_w]
            rfl
          refine pure_ (i := 3) (N := some 73) (v := ?_) (a' := ?_) (bq 11 14) rfl rfl (by kernel_rfl) (fun _ _ _ h => h) (Or.inl ⟨by rfl, ?_⟩) ?_ ?_
          rotate_left
          · intro w'
            go_simp
            with_reducible rfl
          rotate_left
          · simp only [Act.put, List.setIfInBounds_toArray, List.set_cons_zero, List.set_cons_succ, i64_w, i32_w]
            rfl
          refine take_ (i := 0) (N := some 70) (v := ?_) (a' := ?_) (bq 11 15) rfl rfl (by kernel_rfl) (fun _ _ _ h => h) (Or.inl ⟨by rfl, ?_⟩) hHeld ?_ ?_
          rotate_left
          · rintro w' hs
            have q0 := cell_of (j := 0) hs rfl
            have q1 := cell_of (j := 1) hs rfl
            have q2 := cell_of (j := 2) hs rfl
            have q3 := cell_of (j := 3) hs rfl
            go_simp
            with_reducible rfl
          rotate_left
          · simp only [Act.put, List.setIfInBounds_toArray, List.set_cons_zero, List.set_cons_succ, i64_w, i32_w]
            rfl
          refine join_ (σ := (Option Addr × Nat) × Nat) 2 (bq 11 511) (fun s => match s with | ((A6, c6), gd) => [(74, .tuple #[.agg #[.string g.name, .int .u8 g.kind, .string g.data, .slice A6 g.files.length c6], .int .i64 k2]), (69, .tuple #[.agg #[.string g.name, .int .u8 g.kind, .string g.data, .slice A6 g.files.length c6], .int .i64 k2]), (75, .agg #[.string g.name, .int .u8 g.kind, .string g.data, .slice A6 g.files.length c6]), (76, .int .i64 k2), (15, .pointer (some ⟨gd, 0, none⟩))]) (fun s W => match s with | ((A6, c6), gd) => Below wr.heap.size wr W ∧ wr.heap.size ≤ gd ∧ W.heap[gd]? = some (.cells #[.string ⟨#[]⟩, .int .u8 0, .string ⟨#[]⟩, .slice none 0 0] 25 (0, 0))) ?_ ?_
          rotate_left
          · intro hc
            refine two_ (i := 4) (j := 8) (Ni := some 74) (Nj := some 15) (bq 11 31) (bq 11 271) rfl rfl rfl rfl (by kernel_rfl) (by decide) (by decide) (fun K hK => ?_) (fun K hK => ?_)
            · refine goes_ Tryd.func26 (by kernel_rfl) rfl #[.agg #[.string t.name, .int .u8 t.kind, .string t.data, .slice A t.files.length c], .slice Ap k cp] (by rfl) rfl rfl (by simp only [List.map_toArray, List.map_cons, List.map_nil]; rfl) ?_
              refine ((show Calls Tryd.prog 26 #[.agg #[.string t.name, .int .u8 t.kind, .string t.data, .slice A t.files.length c], .slice Ap k cp] _ _ from HGC.out _ (bdrew (Below.refl wr.heap.size wr)))).mono ?_
              rintro e w5 ⟨A6, c6, rfl, hq5⟩
              refine ⟨_, rfl, ?_⟩
              refine hK.out _ _ ((HHX.out _ ((bdrew (Below.refl wr.heap.size wr)).trans hq5))) (fun _ => ?_)
              refine norm_ (a' := ?_) ?_ ?_
              rotate_left
              · show Act.put _ (some 74) _ = _
                simp only [Act.put, List.setIfInBounds_toArray, List.set_cons_zero, List.set_cons_succ, i64_w, i32_w]
                rfl
              refine pure_ (i := 5) (N := some 69) (v := ?_) (a' := ?_) (bq 11 63) rfl rfl (by kernel_rfl) (fun _ _ _ h => h) (Or.inl ⟨by rfl, ?_⟩) ?_ ?_
              rotate_left
              · intro w'
                go_simp
                with_reducible rfl
              rotate_left
              · simp only [Act.put, List.setIfInBounds_toArray, List.set_cons_zero, List.set_cons_succ, i64_w, i32_w]
                rfl
              refine pure_ (i := 6) (N := some 75) (v := ?_) (a' := ?_) (bq 11 127) rfl rfl (by kernel_rfl) (fun _ _ _ h => h) (Or.inl ⟨by rfl, ?_⟩) ?_ ?_
              rotate_left
              · intro w'
                go_simp
                with_reducible rfl
              rotate_left
              · simp only [Act.put, List.setIfInBounds_toArray, List.set_cons_zero, List.set_cons_succ, i64_w, i32_w]
                rfl
              refine pure_ (i := 7) (N := some 76) (v := ?_) (a' := ?_) (bq 11 255) rfl rfl (by kernel_rfl) (fun _ _ _ h => h) (Or.inl ⟨by rfl, ?_⟩) ?_ ?_
              rotate_left
              · intro w'
                go_simp
                with_reducible rfl
              rotate_left
              · simp only [Act.put, List.setIfInBounds_toArray, List.set_cons_zero, List.set_cons_succ, i64_w, i32_w]
                rfl
              refine one_ (i := 8) (N := some 15) (bq 11 511) rfl rfl (by kernel_rfl) (by decide) (fun K hK => ?_)
              refine value_ (w1 := ?_) (v := ?_) (by rfl) rfl ?_ ?_
              rotate_left 2
              · go_simp
                constructor
                · rfl
                · rfl
              refine hK.out _ _ ((HHX.out _ (below_alloc ((bdrew (Below.refl wr.heap.size wr)).trans hq5) _))) (fun _ => ?_)
              refine norm_ (a' := _) ?_ (hc ((A6, c6), w5.heap.size) _ (⟨below_alloc ((bdrew (Below.refl wr.heap.size wr)).trans hq5) _, ((bdrew (Below.refl wr.heap.size wr)).trans hq5).size, blk_new w5 _⟩))
              simp only [putAll, Act.put, List.setIfInBounds_toArray, List.set_cons_zero, List.set_cons_succ]
            · refine value_ (w1 := ?_) (v := ?_) (by rfl) rfl ?_ ?_
              rotate_left 2
              · go_simp
                constructor
                · rfl
                · rfl
              refine hK.out _ _ ((HHX.out _ (below_alloc (bdrew (Below.refl wr.heap.size wr)) (.cells #[.string ⟨#[]⟩, .int .u8 0, .string ⟨#[]⟩, .slice none 0 0] 25)))) (fun _ => ?_)
              refine norm_ (a' := ?_) ?_ ?_
              rotate_left
              · show Act.put _ (some 15) _ = _
                simp only [Act.put, List.setIfInBounds_toArray, List.set_cons_zero, List.set_cons_succ, i64_w, i32_w]
                rfl
              refine one_ (i := 4) (N := some 74) (bq 11 287) rfl rfl (by kernel_rfl) (by decide) (fun K hK => ?_)
              refine goes_ Tryd.func26 (by kernel_rfl) rfl #[.agg #[.string t.name, .int .u8 t.kind, .string t.data, .slice A t.files.length c], .slice Ap k cp] (by rfl) rfl rfl (by simp only [List.map_toArray, List.map_cons, List.map_nil]; rfl) ?_
              refine ((show Calls Tryd.prog 26 #[.agg #[.string t.name, .int .u8 t.kind, .string t.data, .slice A t.files.length c], .slice Ap k cp] _ _ from HGC.out _ (below_alloc (bdrew (Below.refl wr.heap.size wr)) (.cells #[.string ⟨#[]⟩, .int .u8 0, .string ⟨#[]⟩, .slice none 0 0] 25)))).mono ?_
              rintro e w5 ⟨A6, c6, rfl, hq5⟩
              refine ⟨_, rfl, ?_⟩
              refine hK.out _ _ ((HHX.out _ ((below_alloc (bdrew (Below.refl wr.heap.size wr)) (.cells #[.string ⟨#[]⟩, .int .u8 0, .string ⟨#[]⟩, .slice none 0 0] 25)).trans (hq5.mono (below_alloc (Below.refl wr.drew.heap.size wr.drew) (.cells #[.string ⟨#[]⟩, .int .u8 0, .string ⟨#[]⟩, .slice none 0 0] 25)).size)))) (fun _ => ?_)
              refine norm_ (a' := ?_) ?_ ?_
              rotate_left
              · show Act.put _ (some 74) _ = _
                simp only [Act.put, List.setIfInBounds_toArray, List.set_cons_zero, List.set_cons_succ, i64_w, i32_w]
                rfl
              refine pure_ (i := 5) (N := some 69) (v := ?_) (a' := ?_) (bq 11 319) rfl rfl (by kernel_rfl) (fun _ _ _ h => h) (Or.inl ⟨by rfl, ?_⟩) ?_ ?_
              rotate_left
              · intro w'
                go_simp
                with_reducible rfl
              rotate_left
              · simp only [Act.put, List.setIfInBounds_toArray, List.set_cons_zero, List.set_cons_succ, i64_w, i32_w]
                rfl
              refine pure_ (i := 6) (N := some 75) (v := ?_) (a' := ?_) (bq 11 383) rfl rfl (by kernel_rfl) (fun _ _ _ h => h) (Or.inl ⟨by rfl, ?_⟩) ?_ ?_
              rotate_left
              · intro w'
                go_simp
                with_reducible rfl
              rotate_left
              · simp only [Act.put, List.setIfInBounds_toArray, List.set_cons_zero, List.set_cons_succ, i64_w, i32_w]
                rfl
              refine pure_ (i := 7) (N := some 76) (v := ?_) (a' := ?_) (bq 11 511) rfl rfl (by kernel_rfl) (fun _ _ _ h => h) (Or.inl ⟨by rfl, ?_⟩) ?_ ?_
              rotate_left
              · intro w'
                go_simp
                with_reducible rfl
              rotate_left
              · simp only [Act.put, List.setIfInBounds_toArray, List.set_cons_zero, List.set_cons_succ, i64_w, i32_w]
                rfl
              refine norm_ (a' := _) ?_ (hc ((A6, c6), wr.heap.size) _ (⟨((below_alloc (bdrew (Below.refl wr.heap.size wr)) (.cells #[.string ⟨#[]⟩, .int .u8 0, .string ⟨#[]⟩, .slice none 0 0] 25)).trans (hq5.mono (below_alloc (Below.refl wr.drew.heap.size wr.drew) (.cells #[.string ⟨#[]⟩, .int .u8 0, .string ⟨#[]⟩, .slice none 0 0] 25)).size)), Nat.le_refl _, (hq5.block _ (blk_lt (blk_new wr.drew (.cells #[.string ⟨#[]⟩, .int .u8 0, .string ⟨#[]⟩, .slice none 0 0] 25)))).trans (blk_new wr.drew (.cells #[.string ⟨#[]⟩, .int .u8 0, .string ⟨#[]⟩, .slice none 0 0] 25))⟩))
              simp only [putAll, Act.put, List.setIfInBounds_toArray, List.set_cons_zero, List.set_cons_succ]
          · rintro ⟨⟨A6, c6⟩, gd⟩ W hF
            refine norm_ (a' := ?_) ?_ ?_
            rotate_left
            · simp only [putAll, Act.put, List.setIfInBounds_toArray, List.set_cons_zero, List.set_cons_succ]
              rfl
            obtain ⟨hbW, hgd, hzz⟩ := hF
            have hHeld := HHX.out _ hbW
            refine last_ (i := 9) (N := none) (bq 11 1023) rfl rfl (by kernel_rfl) (by decide) (fun K hK => ?_)
            have zc0 := cell_of (j := 0) hzz rfl
            have zu0 := unfr hzz 0
            have zc1 := cell_of (j := 1) hzz rfl
            have zu1 := unfr hzz 1
            have zc2 := cell_of (j := 2) hzz rfl
            have zu2 := unfr hzz 2
            have zc3 := cell_of (j := 3) hzz rfl
            have zu3 := unfr hzz 3
            refine skip_ (w1 := ?_) (by rfl) rfl ?_ ?_
            rotate_left
            · go_simp
              rfl
            refine hK.out _ _ ?_
            refine pure_ (i := 10) (N := some 16) (v := ?_) (a' := ?_) (bq 11 2047) rfl rfl (by kernel_rfl) (fun _ _ _ h => h) (Or.inl ⟨by rfl, ?_⟩) ?_ ?_
            rotate_left
            · intro w'
              go_simp
              with_reducible rfl
            rotate_left
            · simp only [Act.put, List.setIfInBounds_toArray, List.set_cons_zero, List.set_cons_succ, i64_w, i32_w]
              rfl
            refine done_ (by kernel_rfl) ?_
            have HSB := Lib.hid (store4_below (B := wr.heap.size) hbW (g := gd) hgd (.string g.name) (.int .u8 g.kind) (.string g.data) (.slice A6 g.files.length c6))
            have HSX := Lib.hid (store4_box hzz (.string g.name) (.int .u8 g.kind) (.string g.data) (.slice A6 g.files.length c6))
            clear zc0 zc1 zc2 zc3 zu0 zu1 zu2 zu3 hHeld hK hzz hbW
            generalize ((((W.setCell ⟨gd, 0, none⟩ (.string g.name)).setCell ⟨gd, 1, none⟩ (.int .u8 g.kind)).setCell ⟨gd, 2, none⟩ (.string g.data)).setCell ⟨gd, 3, none⟩ (.slice A6 g.files.length c6)) = W9 at *
            have f1 := cell_of (j := 1) HSX.out rfl
            have HBN := Lib.hid (HBL.out.trans (HSB.out.mono HBL.out.size))
            by_cases hst : k2 = 0 ∧ g.kind = 3 ∧ (k < p.length ∨ last = true)
            · obtain ⟨rfl, h3, h4⟩ := hst
              have h3b : (g.kind == 3) = true := beq_iff_eq.2 h3
              have hfin := HB5.out.trans (HBN.out.mono HB5.out.size)
              clear h3
              by_cases h5 : k < p.length
              · have h5b : (k : Int) < (p.length : Int) := by omega
                clear h4
                go_wp2_with fail
                go_ret
                exact ⟨rfl, hfin⟩
              · have h5b : ¬ (k : Int) < (p.length : Int) := by omega
                obtain rfl : last = true := h4.resolve_left h5
                go_wp2_with fail
                go_ret
                exact ⟨rfl, hfin⟩
            · have HMN : Hid (∀ m, 1 ≤ m → m < k + 1 → ¬ ((getR t (p.take m)).2 = 0 ∧ (getR t (p.take m)).1.kind = 3 ∧ (m < p.length ∨ last = true))) := Lib.hid fun m h1 h2 => by
                by_cases h3 : m = k
                · subst h3
                  rw [HG.out]
                  exact hst
                · exact HM.out m h1 (by omega)
              by_cases h2 : k2 = 0
              rotate_left
              · have h2b : (k2 == 0) = false := beq_eq_false_iff_ne.2 h2
                clear hst h2
                go_wp2_with fail
                go_roundw
                case rel => exact ⟨k + 1, by omega, by omega, by go_num, HBN, HMN⟩
                case measure => simp [RowKit.intOf]; omega
              · subst h2
                by_cases h3 : g.kind = 3
                rotate_left
                · have h3b : (g.kind == 3) = false := beq_eq_false_iff_ne.2 h3
                  clear hst h3
                  go_wp2_with fail
                  go_roundw
                  case rel => exact ⟨k + 1, by omega, by omega, by go_num, HBN, HMN⟩
                  case measure => simp [RowKit.intOf]; omega
                · have h3b : (g.kind == 3) = true := beq_iff_eq.2 h3
                  have h5b : ¬ (k : Int) < (p.length : Int) := fun h => hst ⟨rfl, h3, .inl (by omega)⟩
                  obtain rfl : last = false := by
                    cases hl : last
                    · rfl
                    · exact absurd ⟨rfl, h3, .inr hl⟩ hst
                  clear hst h3
                  go_wp2_with fail
                  go_roundw
                  case rel => exact ⟨k + 1, by omega, by omega, by go_num, HBN, HMN⟩
                  case measure => simp [RowKit.intOf]; omega
        · have hqp : q = p := by
            have h := real_plain HOK.out fun m h1 h2 => HM.out m h1 (by omega)
            rw [HRS.out] at h
            exact h
          subst hqp
          have g1 : ¬ (k : Int) ≤ (q.length : Int) := by omega
          go_wp2_with fail
          refine (rsame_one B d Ap cp q wr (Kd.C_below HC5.out HBL.out) hd (Kd.C_below HP.out HBR.out) hcp (by omega)).mono ?_
          rintro e w6 ⟨rfl, hq6⟩
          have hb6 := bstep HBR.out HBR.out.size hq6
          go_wp2_with fail
          go_ret
          exact ⟨rfl, hb6⟩
    · skip
      go_wp2_with fail
      clear l0 l1 l2 l3 y1
      have hrc := real_calls t A c B d q true W5 (Kd.C_below HT.out HB5.out) hc (by omega) HC5.out hd (by omega) (by omega)
      rw [HAG.out] at hrc
      refine (show Calls Tryd.prog 12 #[.agg #[.string t.name, .int .u8 t.kind, .string t.data, .slice A t.files.length c], .slice B q.length d, .bool true] W5 _ from hrc).mono ?_
      clear hrc
      rintro e w6 ⟨B6, d6, rfl, hd6, hC6, hq6⟩
      simp only at hd6 hC6 ⊢
      have HC6 := Lib.hid hC6
      clear hC6
      go_wp2_with fail
      refine (rsame_one B d B6 d6 q w6 (Kd.C_below HC5.out hq6) hd HC6.out hd6 (by omega)).mono ?_
      rintro e w7 ⟨rfl, hq7⟩
      have hqR := hq6.trans (hq7.mono hq6.size)
      go_wp2_with fail
      go_loopw [14] (fun i wr => ∃ k : Nat, 1 ≤ k ∧ k ≤ p.length + 1 ∧ i = .int .i64 k ∧ Hid (Below W5.heap.size W5 wr) ∧ Hid (∀ m, 1 ≤ m → m < k → ¬ ((getR t (p.take m)).2 = 0 ∧ (getR t (p.take m)).1.kind = 3 ∧ (m < p.length ∨ last = true)))) (fun i _ => p.length + 1 - (RowKit.intOf i).toNat)
      case atStart => exact ⟨1, Nat.le_refl _, by omega, rfl, Lib.hid (hqR), Lib.hid fun m h1 h2 => by omega⟩
      case round =>
        obtain ⟨k, hk1, hk, rfl, HBL, HM⟩ := hrel
        have HBR := Lib.hid (HB5.out.trans (HBL.out.mono HB5.out.size))
        by_cases q1 : k ≤ p.length
        · obtain ⟨⟨g, k2⟩, hg⟩ : ∃ r, getR t (p.take k) = r := ⟨_, rfl⟩
          have HG := Lib.hid hg
          have htl : (p.take k).length = k := by rw [List.length_take]; omega
          have HGC : Hid (∀ W, Below wr.heap.size wr W → Calls Tryd.prog 26 #[.agg #[.string t.name, .int .u8 t.kind, .string t.data, .slice A t.files.length c], .slice Ap k cp] W fun e w' => ∃ A6 c6, e = .returned (.tuple #[.agg #[.string g.name, .int .u8 g.kind, .string g.data, .slice A6 g.files.length c6], .int .i64 k2]) ∧ Below W.heap.size W w') := Lib.hid fun W hW => by
            have hWb := HBR.out.trans (hW.mono HBR.out.size)
            have h := Get_calls t A c Ap cp (p.take k) W (Kd.C_below HT.out hWb) hc (by omega) (Kd.C_take (Kd.C_below HP.out hWb) q1) (by omega) (by omega)
            rw [htl, HG.out] at h
            refine (show Calls Tryd.prog 26 #[.agg #[.string t.name, .int .u8 t.kind, .string t.data, .slice A t.files.length c], .slice Ap k cp] W _ from h).mono ?_
            rintro e w' ⟨v, rfl, hR, hb⟩
            obtain ⟨A6, c6, rfl⟩ := Kd.R_slice hR
            exact ⟨A6, c6, rfl, hb⟩
          have HHX : Hid (∀ W, Below wr.heap.size wr W → W.heap[w.heap.size]? = some (.cells #[.string t.name, .int .u8 t.kind, .string t.data, .slice A t.files.length c] 25 (0, 0))) := Lib.hid fun W hW => ((HBL.out.trans (hW.mono HBL.out.size)).block _ (blk_lt HX5.out)).trans HX5.out
          have g1 : (k : Int) ≤ (p.length : Int) := by omega
          have hkc : k ≤ cp := by omega
          have hsz := HBR.out.size
          clear hg
          go_wp2_with fail
          refine start_ (n := 11) (S := fun w' => w'.heap[w.heap.size]? = some (.cells #[.string t.name, .int .u8 t.kind, .string t.data, .slice A t.files.length c] 25 (0, 0))) (ds := [9]) (bq 11 0) (by kernel_rfl) rfl rfl (HHX.out _ (bdrew (Below.refl wr.heap.size wr))) (fun hHeld => ?_)
          refine pure_ (i := 1) (N := some 71) (v := ?_) (a' := ?_) (bq 11 2) rfl rfl (by kernel_rfl) (fun _ _ _ h => h) (Or.inl ⟨by rfl, ?_⟩) ?_ ?_
          rotate_left
          · intro w'
            go_simp
            with_reducible rfl
          rotate_left
          · simp only [Act.put, List.setIfInBounds_toArray, List.set_cons_zero, List.set_cons_succ, i64_w, i32_w]
            rfl
          refine pure_ (i := 2) (N := some 72) (v := ?_) (a' := ?_) (bq 11 6) rfl rfl (by kernel_rfl) (fun _ _ _ h => h) (Or.inl ⟨by rfl, ?_⟩) ?_ ?_
          rotate_left
          · intro w'
            go_simp
            with_reducible rfl
          rotate_left
          · simp only [Act.put, List.setIfInBounds_toArray, List.set_cons_zero, List.set_cons_succ, i64_w, i32_w]
            rfl
          refine pure_ (i := 3) (N := some 73) (v := ?_) (a' := ?_) (bq 11 14) rfl rfl (by kernel_rfl) (fun _ _ _ h => h) (Or.inl ⟨by rfl, ?_⟩) ?_ ?_
          rotate_left
          · intro w'
            go_simp
            with_reducible rfl
          rotate_left
          · simp only [Act.put, List.setIfInBounds_toArray, List.set_cons_zero, List.set_cons_succ, i64_w, i32_w]
            rfl
          refine take_ (i := 0) (N := some 70) (v := ?_) (a' := ?_) (bq 11 15) rfl rfl (by kernel_rfl) (fun _ _ _ h => h) (Or.inl ⟨by rfl, ?_⟩) hHeld ?_ ?_
          rotate_left
          · rintro w' hs
            have q0 := cell_of (j := 0) hs rfl
            have q1 := cell_of (j := 1) hs rfl
            have q2 := cell_of (j := 2) hs rfl
            have q3 := cell_of (j := 3) hs rfl
            go_simp
            with_reducible rfl
          rotate_left
          · simp only [Act.put, List.setIfInBounds_toArray, List.set_cons_zero, List.set_cons_succ, i64_w, i32_w]
            rfl
          refine join_ (σ := (Option Addr × Nat) × Nat) 2 (bq 11 511) (fun s => match s with | ((A6, c6), gd) => [(74, .tuple #[.agg #[.string g.name, .int .u8 g.kind, .string g.data, .slice A6 g.files.length c6], .int .i64 k2]), (69, .tuple #[.agg #[.string g.name, .int .u8 g.kind, .string g.data, .slice A6 g.files.length c6], .int .i64 k2]), (75, .agg #[.string g.name, .int .u8 g.kind, .string g.data, .slice A6 g.files.length c6]), (76, .int .i64 k2), (15, .pointer (some ⟨gd, 0, none⟩))]) (fun s W => match s with | ((A6, c6), gd) => Below wr.heap.size wr W ∧ wr.heap.size ≤ gd ∧ W.heap[gd]? = some (.cells #[.string ⟨#[]⟩, .int .u8 0, .string ⟨#[]⟩, .slice none 0 0] 25 (0, 0))) ?_ ?_
          rotate_left
          · intro hc
            refine two_ (i := 4) (j := 8) (Ni := some 74) (Nj := some 15) (bq 11 31) (bq 11 271) rfl rfl rfl rfl (by kernel_rfl) (by decide) (by decide) (fun K hK => ?_) (fun K hK => ?_)
            · refine goes_ Tryd.func26 (by kernel_rfl) rfl #[.agg #[.string t.name, .int .u8 t.kind, .string t.data, .slice A t.files.length c], .slice Ap k cp] (by rfl) rfl rfl (by simp only [List.map_toArray, List.map_cons, List.map_nil]; rfl) ?_
              refine ((show Calls Tryd.prog 26 #[.agg #[.string t.name, .int .u8 t.kind, .string t.data, .slice A t.files.length c], .slice Ap k cp] _ _ from HGC.out _ (bdrew (Below.refl wr.heap.size wr)))).mono ?_
              rintro e w5 ⟨A6, c6, rfl, hq5⟩
              refine ⟨_, rfl, ?_⟩
              refine hK.out _ _ ((HHX.out _ ((bdrew (Below.refl wr.heap.size wr)).trans hq5))) (fun _ => ?_)
              refine norm_ (a' := ?_) ?_ ?_
              rotate_left
              · show Act.put _ (some 74) _ = _
                simp only [Act.put, List.setIfInBounds_toArray, List.set_cons_zero, List.set_cons_succ, i64_w, i32_w]
                rfl
              refine pure_ (i := 5) (N := some 69) (v := ?_) (a' := ?_) (bq 11 63) rfl rfl (by kernel_rfl) (fun _ _ _ h => h) (Or.inl ⟨by rfl, ?_⟩) ?_ ?_
              rotate_left
              · intro w'
                go_simp
                with_reducible rfl
              rotate_left
              · simp only [Act.put, List.setIfInBounds_toArray, List.set_cons_zero, List.set_cons_succ, i64_w, i32_w]
                rfl
              refine pure_ (i := 6) (N := some 75) (v := ?_) (a' := ?_) (bq 11 127) rfl rfl (by kernel_rfl) (fun _ _ _ h => h) (Or.inl ⟨by rfl, ?_⟩) ?_ ?_
              rotate_left
              · intro w'
                go_simp
                with_reducible rfl
              rotate_left
              · simp only [Act.put, List.setIfInBounds_toArray, List.set_cons_zero, List.set_cons_succ, i64_w, i32_w]
                rfl
              refine pure_ (i := 7) (N := some 76) (v := ?_) (a' := ?_) (bq 11 255) rfl rfl (by kernel_rfl) (fun _ _ _ h => h) (Or.inl ⟨by rfl, ?_⟩) ?_ ?_
              rotate_left
              · intro w'
                go_simp
                with_reducible rfl
              rotate_left
              · simp only [Act.put, List.setIfInBounds_toArray, List.set_cons_zero, List.set_cons_succ, i64_w, i32_w]
                rfl
              refine one_ (i := 8) (N := some 15) (bq 11 511) rfl rfl (by kernel_rfl) (by decide) (fun K hK => ?_)
              refine value_ (w1 := ?_) (v := ?_) (by rfl) rfl ?_ ?_
              rotate_left 2
              · go_simp
                constructor
                · rfl
                · rfl
              refine hK.out _ _ ((HHX.out _ (below_alloc ((bdrew (Below.refl wr.heap.size wr)).trans hq5) _))) (fun _ => ?_)
              refine norm_ (a' := _) ?_ (hc ((A6, c6), w5.heap.size) _ (⟨below_alloc ((bdrew (Below.refl wr.heap.size wr)).trans hq5) _, ((bdrew (Below.refl wr.heap.size wr)).trans hq5).size, blk_new w5 _⟩))
              simp only [putAll, Act.put, List.setIfInBounds_toArray, List.set_cons_zero, List.set_cons_succ]
            · refine value_ (w1 := ?_) (v := ?_) (by rfl) rfl ?_ ?_
              rotate_left 2
              · go_simp
                constructor
                · rfl
                · rfl
              refine hK.out _ _ ((HHX.out _ (below_alloc (bdrew (Below.refl wr.heap.size wr)) (.cells #[.string ⟨#[]⟩, .int .u8 0, .string ⟨#[]⟩, .slice none 0 0] 25)))) (fun _ => ?_)
              refine norm_ (a' := ?_) ?_ ?_
              rotate_left
              · show Act.put _ (some 15) _ = _
                simp only [Act.put, List.setIfInBounds_toArray, List.set_cons_zero, List.set_cons_succ, i64_w, i32_w]
                rfl
              refine one_ (i := 4) (N := some 74) (bq 11 287) rfl rfl (by kernel_rfl) (by decide) (fun K hK => ?_)
              refine goes_ Tryd.func26 (by kernel_rfl) rfl #[.agg #[.string t.name, .int .u8 t.kind, .string t.data, .slice A t.files.length c], .slice Ap k cp] (by rfl) rfl rfl (by simp only [List.map_toArray, List.map_cons, List.map_nil]; rfl) ?_
              refine ((show Calls Tryd.prog 26 #[.agg #[.string t.name, .int .u8 t.kind, .string t.data, .slice A t.files.length c], .slice Ap k cp] _ _ from HGC.out _ (below_alloc (bdrew (Below.refl wr.heap.size wr)) (.cells #[.string ⟨#[]⟩, .int .u8 0, .string ⟨#[]⟩, .slice none 0 0] 25)))).mono ?_
              rintro e w5 ⟨A6, c6, rfl, hq5⟩
              refine ⟨_, rfl, ?_⟩
              refine hK.out _ _ ((HHX.out _ ((below_alloc (bdrew (Below.refl wr.heap.size wr)) (.cells #[.string ⟨#[]⟩, .int .u8 0, .string ⟨#[]⟩, .slice none 0 0] 25)).trans (hq5.mono (below_alloc (Below.refl wr.drew.heap.size wr.drew) (.cells #[.string ⟨#[]⟩, .int .u8 0, .string ⟨#[]⟩, .slice none 0 0] 25)).size)))) (fun _ => ?_)
              refine norm_ (a' := ?_) ?_ ?_
              rotate_left
              · show Act.put _ (some 74) _ = _
                simp only [Act.put, List.setIfInBounds_toArray, List.set_cons_zero, List.set_cons_succ, i64_w, i32_w]
                rfl
              refine pure_ (i := 5) (N := some 69) (v := ?_) (a' := ?_) (bq 11 319) rfl rfl (by kernel_rfl) (fun _ _ _ h => h) (Or.inl ⟨by rfl, ?_⟩) ?_ ?_
              rotate_left
              · intro w'
                go_simp
                with_reducible rfl
              rotate_left
              · simp only [Act.put, List.setIfInBounds_toArray, List.set_cons_zero, List.set_cons_succ, i64_w, i32_w]
                rfl
              refine pure_ (i := 6) (N := some 75) (v := ?_) (a' := ?_) (bq 11 383) rfl rfl (by kernel_rfl) (fun _ _ _ h => h) (Or.inl ⟨by rfl, ?_⟩) ?_ ?_
              rotate_left
              · intro w'
                go_simp
                with_reducible rfl
              rotate_left
              · simp only [Act.put, List.setIfInBounds_toArray, List.set_cons_zero, List.set_cons_succ, i64_w, i32_w]
                rfl
              refine pure_ (i := 7) (N := some 76) (v := ?_) (a' := ?_) (bq 11 511) rfl rfl (by kernel_rfl) (fun _ _ _ h => h) (Or.inl ⟨by rfl, ?_⟩) ?_ ?_
              rotate_left
              · intro w'
                go_simp
                with_reducible rfl
              rotate_left
              · simp only [Act.put, List.setIfInBounds_toArray, List.set_cons_zero, List.set_cons_succ, i64_w, i32_w]
                rfl
              refine norm_ (a' := _) ?_ (hc ((A6, c6), wr.heap.size) _ (⟨((below_alloc (bdrew (Below.refl wr.heap.size wr)) (.cells #[.string ⟨#[]⟩, .int .u8 0, .string ⟨#[]⟩, .slice none 0 0] 25)).trans (hq5.mono (below_alloc (Below.refl wr.drew.heap.size wr.drew) (.cells #[.string ⟨#[]⟩, .int .u8 0, .string ⟨#[]⟩, .slice none 0 0] 25)).size)), Nat.le_refl _, (hq5.block _ (blk_lt (blk_new wr.drew (.cells #[.string ⟨#[]⟩, .int .u8 0, .string ⟨#[]⟩, .slice none 0 0] 25)))).trans (blk_new wr.drew (.cells #[.string ⟨#[]⟩, .int .u8 0, .string ⟨#[]⟩, .slice none 0 0] 25))⟩))
              simp only [putAll, Act.put, List.setIfInBounds_toArray, List.set_cons_zero, List.set_cons_succ]
          · rintro ⟨⟨A6, c6⟩, gd⟩ W hF
            refine norm_ (a' := ?_) ?_ ?_
            rotate_left
            · simp only [putAll, Act.put, List.setIfInBounds_toArray, List.set_cons_zero, List.set_cons_succ]
              rfl
            obtain ⟨hbW, hgd, hzz⟩ := hF
            have hHeld := HHX.out _ hbW
            refine last_ (i := 9) (N := none) (bq 11 1023) rfl rfl (by kernel_rfl) (by decide) (fun K hK => ?_)
            have zc0 := cell_of (j := 0) hzz rfl
            have zu0 := unfr hzz 0
            have zc1 := cell_of (j := 1) hzz rfl
            have zu1 := unfr hzz 1
            have zc2 := cell_of (j := 2) hzz rfl
            have zu2 := unfr hzz 2
            have zc3 := cell_of (j := 3) hzz rfl
            have zu3 := unfr hzz 3
            refine skip_ (w1 := ?_) (by rfl) rfl ?_ ?_
            rotate_left
            · go_simp
              rfl
            refine hK.out _ _ ?_
            refine pure_ (i := 10) (N := some 16) (v := ?_) (a' := ?_) (bq 11 2047) rfl rfl (by kernel_rfl) (fun _ _ _ h => h) (Or.inl ⟨by rfl, ?_⟩) ?_ ?_
            rotate_left
            · intro w'
              go_simp
              with_reducible rfl
            rotate_left
            · simp only [Act.put, List.setIfInBounds_toArray, List.set_cons_zero, List.set_cons_succ, i64_w, i32_w]
              rfl
            refine done_ (by kernel_rfl) ?_
            have HSB := Lib.hid (store4_below (B := wr.heap.size) hbW (g := gd) hgd (.string g.name) (.int .u8 g.kind) (.string g.data) (.slice A6 g.files.length c6))
            have HSX := Lib.hid (store4_box hzz (.string g.name) (.int .u8 g.kind) (.string g.data) (.slice A6 g.files.length c6))
            clear zc0 zc1 zc2 zc3 zu0 zu1 zu2 zu3 hHeld hK hzz hbW
            generalize ((((W.setCell ⟨gd, 0, none⟩ (.string g.name)).setCell ⟨gd, 1, none⟩ (.int .u8 g.kind)).setCell ⟨gd, 2, none⟩ (.string g.data)).setCell ⟨gd, 3, none⟩ (.slice A6 g.files.length c6)) = W9 at *
            have f1 := cell_of (j := 1) HSX.out rfl
            have HBN := Lib.hid (HBL.out.trans (HSB.out.mono HBL.out.size))
            by_cases hst : k2 = 0 ∧ g.kind = 3 ∧ (k < p.length ∨ last = true)
            · obtain ⟨rfl, h3, h4⟩ := hst
              have h3b : (g.kind == 3) = true := beq_iff_eq.2 h3
              have hfin := HB5.out.trans (HBN.out.mono HB5.out.size)
              clear h3
              by_cases h5 : k < p.length
              · have h5b : (k : Int) < (p.length : Int) := by omega
                clear h4
                go_wp2_with fail
                go_ret
                exact ⟨rfl, hfin⟩
              · have h5b : ¬ (k : Int) < (p.length : Int) := by omega
                obtain rfl : last = true := h4.resolve_left h5
                go_wp2_with fail
                go_ret
                exact ⟨rfl, hfin⟩
            · have HMN : Hid (∀ m, 1 ≤ m → m < k + 1 → ¬ ((getR t (p.take m)).2 = 0 ∧ (getR t (p.take m)).1.kind = 3 ∧ (m < p.length ∨ last = true))) := Lib.hid fun m h1 h2 => by
                by_cases h3 : m = k
                · subst h3
                  rw [HG.out]
                  exact hst
                · exact HM.out m h1 (by omega)
              by_cases h2 : k2 = 0
              rotate_left
              · have h2b : (k2 == 0) = false := beq_eq_false_iff_ne.2 h2
                clear hst h2
                go_wp2_with fail
                go_roundw
                case rel => exact ⟨k + 1, by omega, by omega, by go_num, HBN, HMN⟩
                case measure => simp [RowKit.intOf]; omega
              · subst h2
                by_cases h3 : g.kind = 3
                rotate_left
                · have h3b : (g.kind == 3) = false := beq_eq_false_iff_ne.2 h3
                  clear hst h3
                  go_wp2_with fail
                  go_roundw
                  case rel => exact ⟨k + 1, by omega, by omega, by go_num, HBN, HMN⟩
                  case measure => simp [RowKit.intOf]; omega
                · have h3b : (g.kind == 3) = true := beq_iff_eq.2 h3
                  have h5b : ¬ (k : Int) < (p.length : Int) := fun h => hst ⟨rfl, h3, .inl (by omega)⟩
                  obtain rfl : last = false := by
                    cases hl : last
                    · rfl
                    · exact absurd ⟨rfl, h3, .inr hl⟩ hst
                  clear hst h3
                  go_wp2_with fail
                  go_roundw
                  case rel => exact ⟨k + 1, by omega, by omega, by go_num, HBN, HMN⟩
                  case measure => simp [RowKit.intOf]; omega
        · have hqp : q = p := by
            have h := real_plain HOK.out fun m h1 h2 => HM.out m h1 (by omega)
            rw [HRS.out] at h
            exact h
          subst hqp
          have g1 : ¬ (k : Int) ≤ (q.length : Int) := by omega
          go_wp2_with fail
          refine (rsame_one B d Ap cp q wr (Kd.C_below HC5.out HBL.out) hd (Kd.C_below HP.out HBR.out) hcp (by omega)).mono ?_
          rintro e w6 ⟨rfl, hq6⟩
          have hb6 := bstep HBR.out HBR.out.size hq6
          go_wp2_with fail
          go_ret
          exact ⟨rfl, hb6⟩
  obtain ⟨rfl, h3⟩ := hlk
  have hl := real_link HOK.out (by rw [HRS.out]; simp only; rw [HY.out]) (by rw [HRS.out]; simp only; rw [HY.out]; exact h3)
  subst hl
  have h3b : (y.kind == 3) = true := beq_iff_eq.2 h3
  clear h3
  go_wp2_with fail
  clear l0 l1 l2 l3 y1
  go_loopw [14] (fun i wr => ∃ k : Nat, 1 ≤ k ∧ k ≤ p.length + 1 ∧ i = .int .i64 k ∧ Hid (Below W5.heap.size W5 wr) ∧ Hid (∀ m, 1 ≤ m → m < k → ¬ ((getR t (p.take m)).2 = 0 ∧ (getR t (p.take m)).1.kind = 3 ∧ (m < p.length ∨ false = true)))) (fun i _ => p.length + 1 - (RowKit.intOf i).toNat)
  case atStart => exact ⟨1, Nat.le_refl _, by omega, rfl, Lib.hid (Below.refl _ _), Lib.hid fun m h1 h2 => by omega⟩
  case round =>
    obtain ⟨k, hk1, hk, rfl, HBL, HM⟩ := hrel
    have HBR := Lib.hid (HB5.out.trans (HBL.out.mono HB5.out.size))
    by_cases q1 : k ≤ p.length
    · obtain ⟨⟨g, k2⟩, hg⟩ : ∃ r, getR t (p.take k) = r := ⟨_, rfl⟩
      have HG := Lib.hid hg
      have htl : (p.take k).length = k := by rw [List.length_take]; omega
      have HGC : Hid (∀ W, Below wr.heap.size wr W → Calls Tryd.prog 26 #[.agg #[.string t.name, .int .u8 t.kind, .string t.data, .slice A t.files.length c], .slice Ap k cp] W fun e w' => ∃ A6 c6, e = .returned (.tuple #[.agg #[.string g.name, .int .u8 g.kind, .string g.data, .slice A6 g.files.length c6], .int .i64 k2]) ∧ Below W.heap.size W w') := Lib.hid fun W hW => by
        have hWb := HBR.out.trans (hW.mono HBR.out.size)
        have h := Get_calls t A c Ap cp (p.take k) W (Kd.C_below HT.out hWb) hc (by omega) (Kd.C_take (Kd.C_below HP.out hWb) q1) (by omega) (by omega)
        rw [htl, HG.out] at h
        refine (show Calls Tryd.prog 26 #[.agg #[.string t.name, .int .u8 t.kind, .string t.data, .slice A t.files.length c], .slice Ap k cp] W _ from h).mono ?_
        rintro e w' ⟨v, rfl, hR, hb⟩
        obtain ⟨A6, c6, rfl⟩ := Kd.R_slice hR
        exact ⟨A6, c6, rfl, hb⟩
      have HHX : Hid (∀ W, Below wr.heap.size wr W → W.heap[w.heap.size]? = some (.cells #[.string t.name, .int .u8 t.kind, .string t.data, .slice A t.files.length c] 25 (0, 0))) := Lib.hid fun W hW => ((HBL.out.trans (hW.mono HBL.out.size)).block _ (blk_lt HX5.out)).trans HX5.out
      have g1 : (k : Int) ≤ (p.length : Int) := by omega
      have hkc : k ≤ cp := by omega
      have hsz := HBR.out.size
      clear hg
      go_wp2_with fail
      refine start_ (n := 11) (S := fun w' => w'.heap[w.heap.size]? = some (.cells #[.string t.name, .int .u8 t.kind, .string t.data, .slice A t.files.length c] 25 (0, 0))) (ds := [9]) (bq 11 0) (by kernel_rfl) rfl rfl (HHX.out _ (bdrew (Below.refl wr.heap.size wr))) (fun hHeld => ?_)
      refine pure_ (i := 1) (N := some 71) (v := ?_) (a' := ?_) (bq 11 2) rfl rfl (by kernel_rfl) (fun _ _ _ h => h) (Or.inl ⟨by rfl, ?_⟩) ?_ ?_
      rotate_left
      · intro w'
        go_simp
        with_reducible rfl
      rotate_left
      · simp only [Act.put, List.setIfInBounds_toArray, List.set_cons_zero, List.set_cons_succ, i64_w, i32_w]
        rfl
      refine pure_ (i := 2) (N := some 72) (v := ?_) (a' := ?_) (bq 11 6) rfl rfl (by kernel_rfl) (fun _ _ _ h => h) (Or.inl ⟨by rfl, ?_⟩) ?_ ?_
      rotate_left
      · intro w'
        go_simp
        with_reducible rfl
      rotate_left
      · simp only [Act.put, List.setIfInBounds_toArray, List.set_cons_zero, List.set_cons_succ, i64_w, i32_w]
        rfl
      refine pure_ (i := 3) (N := some 73) (v := ?_) (a' := ?_) (bq 11 14) rfl rfl (by kernel_rfl) (fun _ _ _ h => h) (Or.inl ⟨by rfl, ?_⟩) ?_ ?_
      rotate_left
      · intro w'
        go_simp
        with_reducible rfl
      rotate_left
      · simp only [Act.put, List.setIfInBounds_toArray, List.set_cons_zero, List.set_cons_succ, i64_w, i32_w]
        rfl
      refine take_ (i := 0) (N := some 70) (v := ?_) (a' := ?_) (bq 11 15) rfl rfl (by kernel_rfl) (fun _ _ _ h => h) (Or.inl ⟨by rfl, ?_⟩) hHeld ?_ ?_
      rotate_left
      · rintro w' hs
        have q0 := cell_of (j := 0) hs rfl
        have q1 := cell_of (j := 1) hs rfl
        have q2 := cell_of (j := 2) hs rfl
        have q3 := cell_of (j := 3) hs rfl
        go_simp
        with_reducible rfl
      rotate_left
      · simp only [Act.put, List.setIfInBounds_toArray, List.set_cons_zero, List.set_cons_succ, i64_w, i32_w]
        rfl
      refine join_ (σ := (Option Addr × Nat) × Nat) 2 (bq 11 511) (fun s => match s with | ((A6, c6), gd) => [(74, .tuple #[.agg #[.string g.name, .int .u8 g.kind, .string g.data, .slice A6 g.files.length c6], .int .i64 k2]), (69, .tuple #[.agg #[.string g.name, .int .u8 g.kind, .string g.data, .slice A6 g.files.length c6], .int .i64 k2]), (75, .agg #[.string g.name, .int .u8 g.kind, .string g.data, .slice A6 g.files.length c6]), (76, .int .i64 k2), (15, .pointer (some ⟨gd, 0, none⟩))]) (fun s W => match s with | ((A6, c6), gd) => Below wr.heap.size wr W ∧ wr.heap.size ≤ gd ∧ W.heap[gd]? = some (.cells #[.string ⟨#[]⟩, .int .u8 0, .string ⟨#[]⟩, .slice none 0 0] 25 (0, 0))) ?_ ?_
      rotate_left
      · intro hc
        refine two_ (i := 4) (j := 8) (Ni := some 74) (Nj := some 15) (bq 11 31) (bq 11 271) rfl rfl rfl rfl (by kernel_rfl) (by decide) (by decide) (fun K hK => ?_) (fun K hK => ?_)
        · refine goes_ Tryd.func26 (by kernel_rfl) rfl #[.agg #[.string t.name, .int .u8 t.kind, .string t.data, .slice A t.files.length c], .slice Ap k cp] (by rfl) rfl rfl (by simp only [List.map_toArray, List.map_cons, List.map_nil]; rfl) ?_
          refine ((show Calls Tryd.prog 26 #[.agg #[.string t.name, .int .u8 t.kind, .string t.data, .slice A t.files.length c], .slice Ap k cp] _ _ from HGC.out _ (bdrew (Below.refl wr.heap.size wr)))).mono ?_
          rintro e w5 ⟨A6, c6, rfl, hq5⟩
          refine ⟨_, rfl, ?_⟩
          refine hK.out _ _ ((HHX.out _ ((bdrew (Below.refl wr.heap.size wr)).trans hq5))) (fun _ => ?_)
          refine norm_ (a' := ?_) ?_ ?_
          rotate_left
          · show Act.put _ (some 74) _ = _
            simp only [Act.put, List.setIfInBounds_toArray, List.set_cons_zero, List.set_cons_succ, i64_w, i32_w]
            rfl
          refine pure_ (i := 5) (N := some 69) (v := ?_) (a' := ?_) (bq 11 63) rfl rfl (by kernel_rfl) (fun _ _ _ h => h) (Or.inl ⟨by rfl, ?_⟩) ?_ ?_
          rotate_left
          · intro w'
            go_simp
            with_reducible rfl
          rotate_left
          · simp only [Act.put, List.setIfInBounds_toArray, List.set_cons_zero, List.set_cons_succ, i64_w, i32_w]
            rfl
          refine pure_ (i := 6) (N := some 75) (v := ?_) (a' := ?_) (bq 11 127) rfl rfl (by kernel_rfl) (fun _ _ _ h => h) (Or.inl ⟨by rfl, ?_⟩) ?_ ?_
          rotate_left
          · intro w'
            go_simp
            with_reducible rfl
          rotate_left
          · simp only [Act.put, List.setIfInBounds_toArray, List.set_cons_zero, List.set_cons_succ, i64_w, i32_w]
            rfl
          refine pure_ (i := 7) (N := some 76) (v := ?_) (a' := ?_) (bq 11 255) rfl rfl (by kernel_rfl) (fun _ _ _ h => h) (Or.inl ⟨by rfl, ?_⟩) ?_ ?_
          rotate_left
          · intro w'
            go_simp
            with_reducible rfl
          rotate_left
          · simp only [Act.put, List.setIfInBounds_toArray, List.set_cons_zero, List.set_cons_succ, i64_w, i32_w]
            rfl
          refine one_ (i := 8) (N := some 15) (bq 11 511) rfl rfl (by kernel_rfl) (by decide) (fun K hK => ?_)
          refine value_ (w1 := ?_) (v := ?_) (by rfl) rfl ?_ ?_
          rotate_left 2
          · go_simp
            constructor
            · rfl
            · rfl
          refine hK.out _ _ ((HHX.out _ (below_alloc ((bdrew (Below.refl wr.heap.size wr)).trans hq5) _))) (fun _ => ?_)
          refine norm_ (a' := _) ?_ (hc ((A6, c6), w5.heap.size) _ (⟨below_alloc ((bdrew (Below.refl wr.heap.size wr)).trans hq5) _, ((bdrew (Below.refl wr.heap.size wr)).trans hq5).size, blk_new w5 _⟩))
          simp only [putAll, Act.put, List.setIfInBounds_toArray, List.set_cons_zero, List.set_cons_succ]
        · refine value_ (w1 := ?_) (v := ?_) (by rfl) rfl ?_ ?_
          rotate_left 2
          · go_simp
            constructor
            · rfl
            · rfl
          refine hK.out _ _ ((HHX.out _ (below_alloc (bdrew (Below.refl wr.heap.size wr)) (.cells #[.string ⟨#[]⟩, .int .u8 0, .string ⟨#[]⟩, .slice none 0 0] 25)))) (fun _ => ?_)
          refine norm_ (a' := ?_) ?_ ?_
          rotate_left
          · show Act.put _ (some 15) _ = _
            simp only [Act.put, List.setIfInBounds_toArray, List.set_cons_zero, List.set_cons_succ, i64_w, i32_w]
            rfl
          refine one_ (i := 4) (N := some 74) (bq 11 287) rfl rfl (by kernel_rfl) (by decide) (fun K hK => ?_)
          refine goes_ Tryd.func26 (by kernel_rfl) rfl #[.agg #[.string t.name, .int .u8 t.kind, .string t.data, .slice A t.files.length c], .slice Ap k cp] (by rfl) rfl rfl (by simp only [List.map_toArray, List.map_cons, List.map_nil]; rfl) ?_
          refine ((show Calls Tryd.prog 26 #[.agg #[.string t.name, .int .u8 t.kind, .string t.data, .slice A t.files.length c], .slice Ap k cp] _ _ from HGC.out _ (below_alloc (bdrew (Below.refl wr.heap.size wr)) (.cells #[.string ⟨#[]⟩, .int .u8 0, .string ⟨#[]⟩, .slice none 0 0] 25)))).mono ?_
          rintro e w5 ⟨A6, c6, rfl, hq5⟩
          refine ⟨_, rfl, ?_⟩
          refine hK.out _ _ ((HHX.out _ ((below_alloc (bdrew (Below.refl wr.heap.size wr)) (.cells #[.string ⟨#[]⟩, .int .u8 0, .string ⟨#[]⟩, .slice none 0 0] 25)).trans (hq5.mono (below_alloc (Below.refl wr.drew.heap.size wr.drew) (.cells #[.string ⟨#[]⟩, .int .u8 0, .string ⟨#[]⟩, .slice none 0 0] 25)).size)))) (fun _ => ?_)
          refine norm_ (a' := ?_) ?_ ?_
          rotate_left
          · show Act.put _ (some 74) _ = _
            simp only [Act.put, List.setIfInBounds_toArray, List.set_cons_zero, List.set_cons_succ, i64_w, i32_w]
            rfl
          refine pure_ (i := 5) (N := some 69) (v := ?_) (a' := ?_) (bq 11 319) rfl rfl (by kernel_rfl) (fun _ _ _ h => h) (Or.inl ⟨by rfl, ?_⟩) ?_ ?_
          rotate_left
          · intro w'
            go_simp
            with_reducible rfl
          rotate_left
          · simp only [Act.put, List.setIfInBounds_toArray, List.set_cons_zero, List.set_cons_succ, i64_w, i32_w]
            rfl
          refine pure_ (i := 6) (N := some 75) (v := ?_) (a' := ?_) (bq 11 383) rfl rfl (by kernel_rfl) (fun _ _ _ h => h) (Or.inl ⟨by rfl, ?_⟩) ?_ ?_
          rotate_left
          · intro w'
            go_simp
            with_reducible rfl
          rotate_left
          · simp only [Act.put, List.setIfInBounds_toArray, List.set_cons_zero, List.set_cons_succ, i64_w, i32_w]
            rfl
          refine pure_ (i := 7) (N := some 76) (v := ?_) (a' := ?_) (bq 11 511) rfl rfl (by kernel_rfl) (fun _ _ _ h => h) (Or.inl ⟨by rfl, ?_⟩) ?_ ?_
          rotate_left
          · intro w'
            go_simp
            with_reducible rfl
          rotate_left
          · simp only [Act.put, List.setIfInBounds_toArray, List.set_cons_zero, List.set_cons_succ, i64_w, i32_w]
            rfl
          refine norm_ (a' := _) ?_ (hc ((A6, c6), wr.heap.size) _ (⟨((below_alloc (bdrew (Below.refl wr.heap.size wr)) (.cells #[.string ⟨#[]⟩, .int .u8 0, .string ⟨#[]⟩, .slice none 0 0] 25)).trans (hq5.mono (below_alloc (Below.refl wr.drew.heap.size wr.drew) (.cells #[.string ⟨#[]⟩, .int .u8 0, .string ⟨#[]⟩, .slice none 0 0] 25)).size)), Nat.le_refl _, (hq5.block _ (blk_lt (blk_new wr.drew (.cells #[.string ⟨#[]⟩, .int .u8 0, .string ⟨#[]⟩, .slice none 0 0] 25)))).trans (blk_new wr.drew (.cells #[.string ⟨#[]⟩, .int .u8 0, .string ⟨#[]⟩, .slice none 0 0] 25))⟩))
          simp only [putAll, Act.put, List.setIfInBounds_toArray, List.set_cons_zero, List.set_cons_succ]
      · rintro ⟨⟨A6, c6⟩, gd⟩ W hF
        refine norm_ (a' := ?_) ?_ ?_
        rotate_left
        · simp only [putAll, Act.put, List.setIfInBounds_toArray, List.set_cons_zero, List.set_cons_succ]
          rfl
        obtain ⟨hbW, hgd, hzz⟩ := hF
        have hHeld := HHX.out _ hbW
        refine last_ (i := 9) (N := none) (bq 11 1023) rfl rfl (by kernel_rfl) (by decide) (fun K hK => ?_)
        have zc0 := cell_of (j := 0) hzz rfl
        have zu0 := unfr hzz 0
        have zc1 := cell_of (j := 1) hzz rfl
        have zu1 := unfr hzz 1
        have zc2 := cell_of (j := 2) hzz rfl
        have zu2 := unfr hzz 2
        have zc3 := cell_of (j := 3) hzz rfl
        have zu3 := unfr hzz 3
        refine skip_ (w1 := ?_) (by rfl) rfl ?_ ?_
        rotate_left
        · go_simp
          rfl
        refine hK.out _ _ ?_
        refine pure_ (i := 10) (N := some 16) (v := ?_) (a' := ?_) (bq 11 2047) rfl rfl (by kernel_rfl) (fun _ _ _ h => h) (Or.inl ⟨by rfl, ?_⟩) ?_ ?_
        rotate_left
        · intro w'
          go_simp
          with_reducible rfl
        rotate_left
        · simp only [Act.put, List.setIfInBounds_toArray, List.set_cons_zero, List.set_cons_succ, i64_w, i32_w]
          rfl
        refine done_ (by kernel_rfl) ?_
        have HSB := Lib.hid (store4_below (B := wr.heap.size) hbW (g := gd) hgd (.string g.name) (.int .u8 g.kind) (.string g.data) (.slice A6 g.files.length c6))
        have HSX := Lib.hid (store4_box hzz (.string g.name) (.int .u8 g.kind) (.string g.data) (.slice A6 g.files.length c6))
        clear zc0 zc1 zc2 zc3 zu0 zu1 zu2 zu3 hHeld hK hzz hbW
        generalize ((((W.setCell ⟨gd, 0, none⟩ (.string g.name)).setCell ⟨gd, 1, none⟩ (.int .u8 g.kind)).setCell ⟨gd, 2, none⟩ (.string g.data)).setCell ⟨gd, 3, none⟩ (.slice A6 g.files.length c6)) = W9 at *
        have f1 := cell_of (j := 1) HSX.out rfl
        have HBN := Lib.hid (HBL.out.trans (HSB.out.mono HBL.out.size))
        by_cases hst : k2 = 0 ∧ g.kind = 3 ∧ (k < p.length ∨ false = true)
        · obtain ⟨rfl, h3, h4⟩ := hst
          have h3b : (g.kind == 3) = true := beq_iff_eq.2 h3
          have hfin := HB5.out.trans (HBN.out.mono HB5.out.size)
          clear h3
          by_cases h5 : k < p.length
          · have h5b : (k : Int) < (p.length : Int) := by omega
            clear h4
            go_wp2_with fail
            go_ret
            exact ⟨rfl, hfin⟩
          · have h5b : ¬ (k : Int) < (p.length : Int) := by omega
            exact absurd (h4.resolve_left h5) (by decide)
        · have HMN : Hid (∀ m, 1 ≤ m → m < k + 1 → ¬ ((getR t (p.take m)).2 = 0 ∧ (getR t (p.take m)).1.kind = 3 ∧ (m < p.length ∨ false = true))) := Lib.hid fun m h1 h2 => by
            by_cases h3 : m = k
            · subst h3
              rw [HG.out]
              exact hst
            · exact HM.out m h1 (by omega)
          by_cases h2 : k2 = 0
          rotate_left
          · have h2b : (k2 == 0) = false := beq_eq_false_iff_ne.2 h2
            clear hst h2
            go_wp2_with fail
            go_roundw
            case rel => exact ⟨k + 1, by omega, by omega, by go_num, HBN, HMN⟩
            case measure => simp [RowKit.intOf]; omega
          · subst h2
            by_cases h3 : g.kind = 3
            rotate_left
            · have h3b : (g.kind == 3) = false := beq_eq_false_iff_ne.2 h3
              clear hst h3
              go_wp2_with fail
              go_roundw
              case rel => exact ⟨k + 1, by omega, by omega, by go_num, HBN, HMN⟩
              case measure => simp [RowKit.intOf]; omega
            · have h3b : (g.kind == 3) = true := beq_iff_eq.2 h3
              have h5b : ¬ (k : Int) < (p.length : Int) := fun h => hst ⟨rfl, h3, .inl (by omega)⟩
              clear hst h3
              go_wp2_with fail
              go_roundw
              case rel => exact ⟨k + 1, by omega, by omega, by go_num, HBN, HMN⟩
              case measure => simp [RowKit.intOf]; omega
    · have hqp : q = p := by
        have h := real_plain HOK.out fun m h1 h2 => HM.out m h1 (by omega)
        rw [HRS.out] at h
        exact h
      subst hqp
      have g1 : ¬ (k : Int) ≤ (q.length : Int) := by omega
      go_wp2_with fail
      refine (rsame_one B d Ap cp q wr (Kd.C_below HC5.out HBL.out) hd (Kd.C_below HP.out HBR.out) hcp (by omega)).mono ?_
      rintro e w6 ⟨rfl, hq6⟩
      have hb6 := bstep HBR.out HBR.out.size hq6
      go_wp2_with fail
      go_ret
      exact ⟨rfl, hb6⟩
theorem lvreals_all (t : File) (A : Option Addr) (c : Nat) (Ap : Option Addr) (cp : Nat) (p : List ByteArray) (last : Bool) (w : World) (ht : FileK.C w A t.files.length t.files) (hc : t.files.length ≤ c) (hbt : t.bulk ≤ 1048576) (hp : Kd.C Kd.string w Ap p.length p) (hcp : p.length ≤ cp) (hps : sumP p ≤ 1048576) :
    Calls Tryd.prog 6 #[fileV t A c, .slice Ap p.length cp, .bool last] w fun e w' => e = .returned (.bool true) ∧ Below w.heap.size w w' :=
  lvreals_calls t A c Ap cp p last w ht hc hbt hp hcp hps
end Go.Proofs.YthlcjjhfkldmhaaDoor.G
