/- paddockref03.Copy: rows apart. Printed by wip/tools/gen_rcopyf.py. -/
import Derived.Test.YthlcjjhfkldmhaaDoorTTurn
set_option linter.unusedVariables false
set_option linter.unusedSimpArgs false
namespace Go.Proofs.YthlcjjhfkldmhaaDoor.G
open Go.RowKit Go.Lib Go.Proofs.YthlcjjhfkldmhaaDoorW.PrintWords Go.Proofs.YthlcjjhfkldmhaaDoorW.PrintLast
set_option linter.unusedVariables false
set_option linter.unusedSimpArgs false

set_option maxHeartbeats 8000000 in
set_option maxRecDepth 100000 in
theorem rcopy_apart : ∀ (n : Nat) (a : File) (A : Option Addr) (c : Nat) (w : World), a.bulk ≤ n → a.bulk ≤ 1099511627776 → FileK.C w A a.files.length a.files → a.files.length ≤ c →
    Calls Tryd.prog 10 #[fileV a A c] w fun e w' => ∃ v bl, e = .returned (.agg #[.string a.name, .int .u8 a.kind, .string a.data, v]) ∧ FT w.heap.size a w' v bl ∧ bl.Nodup ∧ Below w.heap.size w w' := by
  intro n
  induction n with
  | zero => intro a A c w h; have := bulk_eq a; omega
  | succ n ih =>
  intro a A c w hn hbk hr hc
  have HI := Lib.hid (fun (x : File) A c W h1 h2 => ih x A c W h1 h2)
  clear ih
  have hlen := bulkL_len a.files
  have hbe := bulk_eq a
  have HR := Lib.hid hr
  clear hr
  have HN' : ∀ x ∈ a.files, x.bulk ≤ n ∧ x.bulk ≤ 1099511627776 := fun x hx => by have := bulk_child hx; omega
  have hal' : a.files.length ≤ 1099511627776 := by omega
  obtain ⟨an, ak, ad, af⟩ := a
  change af.length ≤ c at hc
  change Hid (FileK.C w A af.length af) at HR
  have hal : af.length ≤ 1099511627776 := hal'
  have HN : Hid (∀ x ∈ af, x.bulk ≤ n ∧ x.bulk ≤ 1099511627776) := Lib.hid HN'
  clear hbe hlen hn hbk hal' HN'
  go_enter Tryd.func10, Tryd.ntmps10
  unfold fileV
  go_wp2_with fail
  go_loopw [16] (fun i wr => ∃ (k : Nat) (v : Value) (bl : List Nat), k ≤ af.length ∧ i = .int .i64 k ∧ Below w.heap.size w wr ∧ Hid (wr.heap[w.heap.size + 2]? = some (.cells #[.string an, .int .u8 ak, .string ad, v] 25 (0, 0)))
    ∧ Hid (wr.heap[w.heap.size + 1]? = some (.cells #[.string ⟨#[]⟩, .int .u8 0, .string ⟨#[]⟩, .slice none 0 0] 25 (0, 0)))
    ∧ Hid (FT w.heap.size ⟨an, ak, ad, af.take k⟩ wr v bl) ∧ Hid (bl.Nodup ∧ ∀ j ∈ bl, w.heap.size + 3 ≤ j) ∧ w.heap.size + 3 ≤ wr.heap.size) (fun i _ => af.length - (RowKit.intOf i).toNat)
  case atStart =>
    exact ⟨0, .slice none 0 0, [], by omega, rfl, ((((Below.refl _ _).alloc (Nat.le_refl _) _).alloc (by simp) _).alloc (by simp; omega) _), Lib.hid (three_boxes w _ _ _ _ _ _), Lib.hid ((Below.heap_alloc _ _ _ (by simp)).trans (two_boxes w _ _ _ _).2), Lib.hid (by rw [FT_eq]; exact .inl ⟨rfl, rfl, rfl⟩), Lib.hid ⟨List.nodup_nil, fun _ h => (by cases h)⟩, by simp⟩
  case round =>
    obtain ⟨k, v, bl, hk, rfl, hb, HB2, HB1, HV, HN1, hsz⟩ := hrel
    by_cases hlt : k < af.length
    · obtain ⟨aad, A', c', rfl, p1, p2, p3, p4, hc', hC'⟩ := file_at HR.out k hlt
      have mv : ∀ {p : Addr} {v : Value}, w.cell? p = some v → wr.cell? p = some v := fun h => (hb.cell (World.block_lt_of_cell? w _ h)).trans h
      have p1' := mv p1
      have p2' := mv p2
      have p3' := mv p3
      have p4' := mv p4
      have hmem := HN.out _ (List.getElem_mem hlt)
      have htk : af.take (k + 1) = af.take k ++ [af[k]] := by rw [List.take_succ_eq_append_getElem hlt]
      have HTK := Lib.hid htk
      have HC := Lib.hid (fun W (h : Below wr.heap.size wr W) => (show Calls Tryd.prog 10 #[.agg #[.string af[k].name, .int .u8 af[k].kind, .string af[k].data, .slice A' af[k].files.length c']] W _ from HI.out af[k] A' c' W hmem.1 hmem.2 (Kd.C_below hC' (hb.trans (h.mono hb.size))) hc'))
      clear p1 p2 p3 p4 mv hmem hC' htk HI
      generalize af[k] = x at *
      have g1 : (k : Int) < (af.length : Int) := by omega
      have HBL := Lib.hid (fun j (hj : j ∈ bl) => (⟨HN1.out.2 j hj, (FT_lt _ _ _ _ _ HV.out j hj).1⟩ : w.heap.size + 3 ≤ j ∧ j < wr.heap.size))
      have hf2 : wr.frozen? ⟨w.heap.size + 1 + 1, 3, none⟩ = false := by simp [World.frozen?, HB2.out]
      have hx2 : wr.cell? ⟨w.heap.size + 1 + 1, 3, none⟩ = some v := cell_of HB2.out rfl
      have hbx := below_alloc (Below.refl wr.heap.size wr) (.cells #[.string x.name, .int .u8 x.kind, .string x.data, .slice A' x.files.length c'] 25)
      have hnb := blk_new wr (.cells #[.string x.name, .int .u8 x.kind, .string x.data, .slice A' x.files.length c'] 25)
      have hsX : (wr.alloc (.cells #[.string x.name, .int .u8 x.kind, .string x.data, .slice A' x.files.length c'] 25)).heap.size = wr.heap.size + 1 := by simp
      go_wp2_with fail
      clear p1' p2' p3' p4'
      generalize wr.alloc (.cells #[.string x.name, .int .u8 x.kind, .string x.data, .slice A' x.files.length c'] 25) = W1 at *
      have y0 : W1.cell? ⟨wr.heap.size, 0, none⟩ = some (.string x.name) := cell_of hnb rfl
      have y1 : W1.cell? ⟨wr.heap.size, 1, none⟩ = some (.int .u8 x.kind) := cell_of hnb rfl
      have y2 : W1.cell? ⟨wr.heap.size, 2, none⟩ = some (.string x.data) := cell_of hnb rfl
      have y3 : W1.cell? ⟨wr.heap.size, 3, none⟩ = some (.slice A' x.files.length c') := cell_of hnb rfl
      have z3 := (hbx.cell (p := ⟨w.heap.size + 1 + 1, 3, none⟩) (by simp only; omega)).trans hx2
      have zf := (hbx.frozen (p := ⟨w.heap.size + 1 + 1, 3, none⟩) (by simp only; omega)).trans hf2
      have HVX := Lib.hid (FT_below HV.out hbx)
      have HNB := Lib.hid hnb
      clear hx2 hf2 hnb
      refine start_ (n := 8) (S := fun w' => w'.cell? ⟨w.heap.size + 1 + 1, 3, none⟩ = some v ∧ w'.cell? ⟨wr.heap.size, 0, none⟩ = some (.string x.name) ∧ w'.cell? ⟨wr.heap.size, 1, none⟩ = some (.int .u8 x.kind) ∧ w'.cell? ⟨wr.heap.size, 2, none⟩ = some (.string x.data) ∧ w'.cell? ⟨wr.heap.size, 3, none⟩ = some (.slice A' x.files.length c')) (ds := [7]) #[false, false, false, false, false, false, false, false] (by kernel_rfl) rfl rfl ⟨z3, y0, y1, y2, y3⟩ (fun hHeld => ?_)
      refine pure_ (i := 0) (N := some 20) (v := ?_) (a' := ?_) #[true, false, false, false, false, false, false, false] rfl rfl (by kernel_rfl) (fun _ _ _ h => h) (Or.inl ⟨by rfl, ?_⟩) ?_ ?_
      rotate_left
      · intro w'
        go_simp
        with_reducible rfl
      rotate_left
      · simp only [Act.put, List.setIfInBounds_toArray, List.set_cons_zero, List.set_cons_succ, i64_w, i32_w]
        rfl
      refine take_ (i := 1) (N := some 21) (v := ?_) (a' := ?_) #[true, true, false, false, false, false, false, false] rfl rfl (by kernel_rfl) (fun _ _ _ h => h) (Or.inl ⟨by rfl, ?_⟩) hHeld ?_ ?_
      rotate_left
      · rintro w' ⟨s0, s1, s2, s3, s4⟩
        go_simp
        with_reducible rfl
      rotate_left
      · simp only [Act.put, List.setIfInBounds_toArray, List.set_cons_zero, List.set_cons_succ, i64_w, i32_w]
        rfl
      refine take_ (i := 2) (N := some 22) (v := ?_) (a' := ?_) #[true, true, true, false, false, false, false, false] rfl rfl (by kernel_rfl) (fun _ _ _ h => h) (Or.inl ⟨by rfl, ?_⟩) hHeld ?_ ?_
      rotate_left
      · rintro w' ⟨s0, s1, s2, s3, s4⟩
        go_simp
        with_reducible rfl
      rotate_left
      · simp only [Act.put, List.setIfInBounds_toArray, List.set_cons_zero, List.set_cons_succ, i64_w, i32_w]
        rfl
      refine one_ (i := 3) (N := some 23) #[true, true, true, true, false, false, false, false] rfl rfl (by kernel_rfl) (by decide) (fun K hK => ?_)
      refine goes_ Tryd.func10 (by kernel_rfl) rfl #[.agg #[.string x.name, .int .u8 x.kind, .string x.data, .slice A' x.files.length c']] (by rfl) rfl rfl (by simp only [List.map_toArray, List.map_cons, List.map_nil]; rfl) ?_
      refine (HC.out _ (bdrew hbx)).mono ?_
      rintro e w1 ⟨v1, bx, rfl, ho1, hn1, hb1⟩
      refine ⟨_, rfl, ?_⟩
      have hszd : W1.drew.heap.size = W1.heap.size := rfl
      rw [hszd] at ho1 hb1
      have hb1' : Below W1.heap.size W1 w1 := (bdrew (Below.refl W1.heap.size W1)).trans hb1
      have hb1r : Below wr.heap.size wr w1 := hbx.trans (hb1'.mono (by omega))
      have hbw1 := bstep hb hb.size hb1r
      have HV1 := Lib.hid (FT_below HVX.out hb1')
      have HBX := Lib.hid (fun j (hj : j ∈ bx) => FT_lt _ _ _ _ _ ho1 j hj)
      have HP1 := Lib.hid (FT_lower (B' := w.heap.size) (by omega) _ _ _ _ ho1)
      have hs1 := hb1'.size
      have HG2 := Lib.hid ((hb1r.block (w.heap.size + 2) (by omega)).trans HB2.out)
      have HG1 := Lib.hid ((hb1r.block (w.heap.size + 1) (by omega)).trans HB1.out)
      have HGX := Lib.hid ((hb1'.block wr.heap.size (by omega)).trans HNB.out)
      obtain ⟨A1, c1, rfl, hc1, hC1⟩ := FT_reads _ _ _ _ _ HP1.out
      clear ho1 hC1 z3 zf hb1 hHeld y0 y1 y2 y3
      refine hK.out _ _ ⟨cell_of HG2.out rfl, cell_of HGX.out rfl, cell_of HGX.out rfl, cell_of HGX.out rfl, cell_of HGX.out rfl⟩ (fun hHeld => ?_)
      refine norm_ (a' := ?_) ?_ ?_
      rotate_left
      · show Act.put _ (some 23) _ = _
        simp only [Act.put, List.setIfInBounds_toArray, List.set_cons_zero, List.set_cons_succ, i64_w, i32_w]
        rfl
      refine one_ (i := 4) (N := some 24) #[true, true, true, true, true, false, false, false] rfl rfl (by kernel_rfl) (by decide) (fun K hK => ?_)
      refine value_ (w1 := ?_) (v := ?_) (by rfl) rfl ?_ ?_
      rotate_left 2
      · go_simp
        constructor
        · rfl
        · rfl
      have HG2a := (Below.heap_alloc w1 (.cells #[.string x.name, .int .u8 x.kind, .string x.data, .slice A1 x.files.length c1] 25) (w.heap.size + 2) (by omega)).trans HG2.out
      have HGXa := (Below.heap_alloc w1 (.cells #[.string x.name, .int .u8 x.kind, .string x.data, .slice A1 x.files.length c1] 25) wr.heap.size (by omega)).trans HGX.out
      refine hK.out _ _ ⟨cell_of HG2a rfl, cell_of HGXa rfl, cell_of HGXa rfl, cell_of HGXa rfl, cell_of HGXa rfl⟩ (fun hHeld => ?_)
      refine norm_ (a' := ?_) ?_ ?_
      rotate_left
      · show Act.put _ (some 24) _ = _
        simp only [Act.put, List.setIfInBounds_toArray, List.set_cons_zero, List.set_cons_succ, i64_w, i32_w]
        rfl
      refine one_ (i := 5) (N := some 25) #[true, true, true, true, true, true, false, false] rfl rfl (by kernel_rfl) (by decide) (fun K hK => ?_)
      obtain ⟨inner, bs, hown, hL, hbn, hbs, hvb⟩ := FT_own HV1.out HN1.out.1
      have hlt1 : (File.mk an ak ad (af.take k)).files.length = k := by show (af.take k).length = k; rw [List.length_take]; omega
      rw [hlt1] at hown
      obtain ⟨i0, hi0, hz0, hzs, hzb⟩ := infoF
      obtain ⟨v2, w2, hrun, ho2, hg2, _, hat2⟩ := run_append_own_at (P := Tryd.prog) (w1.alloc (.cells #[.string x.name, .int .u8 x.kind, .string x.data, .slice A1 x.files.length c1] 25)) w.heap.size 23 23 25 i0 _ 4 64 Tryd.underlying23 hi0 hz0 hzs hzb (by decide) (by decide) v k inner (hown.alloc _) ⟨w1.heap.size, 0, none⟩ 1 1 [.string x.name, .int .u8 x.kind, .string x.data, .slice A1 x.files.length c1] rfl
        (by simpa using World.news_of_block (cs := #[.string x.name, .int .u8 x.kind, .string x.data, .slice A1 x.files.length c1]) (t := 25) (fr := (0, 0)) (heap_alloc_new w1 (.cells #[.string x.name, .int .u8 x.kind, .string x.data, .slice A1 x.files.length c1] 25))) (by intro u hu; simp only [List.mem_cons, List.not_mem_nil, or_false] at hu; rcases hu with rfl | rfl | rfl | rfl <;> rfl) (by simp only [maxLen]; omega) (by omega) (by simp; omega)
      refine value_ (w1 := w2) (v := v2) (by rfl) rfl ?_ ?_
      · simp [execOp, resolve, invoke, builtin, Act.eval, hrun, Result.andThen]
      have hal := (Below.refl w1.heap.size w1).alloc (Nat.le_refl _) (.cells #[.string x.name, .int .u8 x.kind, .string x.data, .slice A1 x.files.length c1] 25)
      have hsz1 : (w1.alloc (.cells #[.string x.name, .int .u8 x.kind, .string x.data, .slice A1 x.files.length c1] 25)).heap.size = w1.heap.size + 1 := by simp
      have hvlt : ∀ j, v.ownBlock = some j → w.heap.size + 3 ≤ j ∧ j < wr.heap.size := fun j hj => HBL.out j (hvb j hj)
      have hb2 : Below w.heap.size w w2 := (hbw1.trans (hal.mono (by omega))).grown hg2 (by omega) (fun j hj => by have := (hvlt j hj).1; omega)
      obtain ⟨b1, b2, hbb, hL2⟩ := LT_ins (B := w.heap.size) (z := x) (af.take k).length hL HP1.out
      obtain ⟨g2, hg2v⟩ : ∃ g2, v2.ownBlock = some g2 := by
        rcases ho2.2 with ⟨_, h0⟩ | ⟨g', cap, cur, hvv, _⟩
        · omega
        · exact ⟨g', by rw [hvv]; rfl⟩
      have hor : v.ownBlock = some g2 ∨ w1.heap.size < g2 + 1 ∧ w1.heap.size ≤ g2 := by
        rcases hat2 with h2 | h2
        · exact .inl (h2.symm.trans hg2v)
        · rw [hg2v] at h2
          injection h2 with h2
          rw [h2, hsz1]
          exact .inr ⟨by omega, by omega⟩
      have hil : inner.length = (af.take k).length * 4 := by rw [hown.1, List.length_take]; omega
      have hkeep : ∀ j, j < w1.heap.size → v.ownBlock ≠ some j → w2.heap[j]? = w1.heap[j]? := fun j hj hn => (hg2.block j (by omega) (fun e => hn e.symm)).trans (hal.block j hj)
      have hrow2 : w2.ownsRow w.heap.size 25 4 v2 (af.take (k + 1)).length (inner ++ [.string x.name, .int .u8 x.kind, .string x.data, .slice A1 x.files.length c1]) := by
        rw [show (af.take (k + 1)).length = k + 1 by rw [List.length_take]; omega]
        exact ho2
      have hL3 : LT w.heap.size (af.take (k + 1)) w2 (inner ++ [.string x.name, .int .u8 x.kind, .string x.data, .slice A1 x.files.length c1]) (b1 ++ (bx ++ b2)) := by
        have h3 := LT_move _ _ _ w2 _ _ hL2 fun j hj => by
          have hj2 : j ∈ bs ∨ j ∈ bx := by
            rw [hbb]
            simp only [List.mem_append] at hj ⊢
            rcases hj with h | h | h
            · exact .inl (.inl h)
            · exact .inr h
            · exact .inl (.inr h)
          rcases hj2 with hj2 | hj2
          · have h4 := HBL.out j (hbs j hj2).1
            exact hkeep j (by omega) (hbs j hj2).2
          · have h4 := HBX.out j hj2
            exact hkeep j (by omega) (fun e => by have := (hvlt j e).2; omega)
        change LT w.heap.size ((af.take k).take (af.take k).length ++ x :: (af.take k).drop (af.take k).length) w2 _ _ at h3
        rw [← hil, List.take_length, List.take_length, List.drop_length, List.drop_length, List.append_nil] at h3
        rw [HTK.out]
        exact h3
      have HO2 : Hid (FT w.heap.size (File.mk an ak ad (af.take (k + 1))) w2 v2 (g2 :: (b1 ++ (bx ++ b2)))) := Lib.hid (FT_row (d := File.mk an ak ad (af.take (k + 1))) hg2v hrow2 hL3)
      have HN2 : Hid ((g2 :: (b1 ++ (bx ++ b2))).Nodup ∧ ∀ j ∈ g2 :: (b1 ++ (bx ++ b2)), w.heap.size + 3 ≤ j) := Lib.hid (by
        have hg2n : g2 ∉ bs := fun h => by
          rcases hor with e | e
          · exact (hbs g2 h).2 e
          · have := (HBL.out g2 (hbs g2 h).1).2
            omega
        have hg2x : g2 ∉ bx := fun h => by
          have h4 := HBX.out g2 h
          rcases hor with e | e
          · have := (hvlt g2 e).2
            omega
          · omega
        have hd2 : ∀ j ∈ bx, j ∉ bs := fun j hj hj2 => by
          have h4 := HBX.out j hj
          have := (HBL.out j (hbs j hj2).1).2
          omega
        refine ⟨nodup_mid (b2 := []) (by rw [List.nil_append, ← hbb]; exact hbn) hn1 (by rw [List.nil_append, ← hbb]; exact hd2) (by rw [List.nil_append, ← hbb]; exact hg2n) hg2x, fun j hj => ?_⟩
        have hj2 : j = g2 ∨ j ∈ bs ∨ j ∈ bx := by
          rw [hbb]
          simp only [List.mem_append, List.mem_cons] at hj ⊢
          rcases hj with h | h | h | h
          · exact .inl h
          · exact .inr (.inl (.inl h))
          · exact .inr (.inr h)
          · exact .inr (.inl (.inr h))
        rcases hj2 with rfl | hj2 | hj2
        · rcases hor with e | e
          · exact (hvlt _ e).1
          · omega
        · exact (HBL.out j (hbs j hj2).1).1
        · have := HBX.out j hj2
          omega)
      have hrow : ∀ j, v.ownBlock = some j → w.heap.size + 3 ≤ j := fun j hj => (hvlt j hj).1
      have HK2 := hg2.block (w.heap.size + 2) (by omega) (fun e => by have := hrow _ e.symm; omega)
      have HK1 := hg2.block (w.heap.size + 1) (by omega) (fun e => by have := hrow _ e.symm; omega)
      have HH2 := Lib.hid (HK2.trans HG2a)
      have HH1 := Lib.hid (HK1.trans ((Below.heap_alloc w1 _ _ (by omega)).trans HG1.out))
      have HHX := Lib.hid ((hg2.block wr.heap.size (by omega) (fun e => by have := hvlt _ e.symm; omega)).trans HGXa)
      have hg2s := hg2.size
      have hk1 : (af.take (k + 1)).length = k + 1 := by rw [List.length_take]; omega
      obtain ⟨A2, c2, rfl, hc2, hC2⟩ := FT_reads _ _ _ _ _ HO2.out
      change Hid (FT _ _ w2 (.slice A2 (af.take (k + 1)).length c2) _) at HO2
      change (af.take (k + 1)).length ≤ c2 at hc2
      dsimp only at hrun ⊢
      rw [hk1] at HO2 hc2 ⊢
      clear ho2 hC2 hHeld HK1 HK2 hat2 hrow hg2 hrun hL2 hL hown hbs hvb hbn hbb hor hg2v hkeep hvlt hal hi0 hz0 hzs hzb hil hlt1 hrow2 hL3
      refine hK.out _ _ ⟨cell_of HH2.out rfl, cell_of HHX.out rfl, cell_of HHX.out rfl, cell_of HHX.out rfl, cell_of HHX.out rfl⟩ (fun hHeld => ?_)
      refine norm_ (a' := ?_) ?_ ?_
      rotate_left
      · show Act.put _ (some 25) _ = _
        simp only [Act.put, List.setIfInBounds_toArray, List.set_cons_zero, List.set_cons_succ, i64_w, i32_w]
        rfl
      refine pure_ (i := 6) (N := some 26) (v := ?_) (a' := ?_) #[true, true, true, true, true, true, true, false] rfl rfl (by kernel_rfl) (fun _ _ _ h => h) (Or.inl ⟨by rfl, ?_⟩) ?_ ?_
      rotate_left
      · intro w'
        go_simp
        with_reducible rfl
      rotate_left
      · simp only [Act.put, List.setIfInBounds_toArray, List.set_cons_zero, List.set_cons_succ, i64_w, i32_w]
        rfl
      refine last_ (i := 7) (N := none) #[true, true, true, true, true, true, true, true] rfl rfl (by kernel_rfl) (by decide) (fun K hK => ?_)
      have hcs : w2.cell? ⟨w.heap.size + 1 + 1, 3, none⟩ = some v := cell_of HH2.out rfl
      have hfs : w2.frozen? ⟨w.heap.size + 1 + 1, 3, none⟩ = false := by simp [World.frozen?, HH2.out]
      refine skip_ (w1 := ?_) (by rfl) rfl ?_ ?_
      rotate_left
      · go_simp
        rfl
      refine hK.out _ _ ?_
      refine done_ (by kernel_rfl) ?_
      go_wp2_with fail
      go_roundw
      case rel =>
        exact ⟨k + 1, _, _, by omega, by go_num, hb2.setCell (p := ⟨w.heap.size + 1 + 1, 3, none⟩) (by simp only; omega) _, Lib.hid (blk_put (cs := #[.string an, .int .u8 ak, .string ad, v]) HH2.out 3 _ rfl), Lib.hid ((Below.heap_setCell _ _ _ _ (by simp only; omega)).trans HH1.out), Lib.hid (FT_move _ _ _ _ _ _ HO2.out fun j hj => Below.heap_setCell _ _ _ _ (by have := HN2.out.2 j hj; simp only; omega)), HN2, by simp [World.setCell]; omega⟩
      case measure => simp [RowKit.intOf]; omega
    · obtain rfl : k = af.length := by omega
      have e0 : wr.cell? ⟨w.heap.size + 1 + 1, 0, none⟩ = some (.string an) := cell_of HB2.out rfl
      have e1 : wr.cell? ⟨w.heap.size + 1 + 1, 1, none⟩ = some (.int .u8 ak) := cell_of HB2.out rfl
      have e2 : wr.cell? ⟨w.heap.size + 1 + 1, 2, none⟩ = some (.string ad) := cell_of HB2.out rfl
      have e3 : wr.cell? ⟨w.heap.size + 1 + 1, 3, none⟩ = some v := cell_of HB2.out rfl
      have d0 : wr.cell? ⟨w.heap.size + 1, 0, none⟩ = some (.string ⟨#[]⟩) := cell_of HB1.out rfl
      have d1 : wr.cell? ⟨w.heap.size + 1, 1, none⟩ = some (.int .u8 0) := cell_of HB1.out rfl
      have d2 : wr.cell? ⟨w.heap.size + 1, 2, none⟩ = some (.string ⟨#[]⟩) := cell_of HB1.out rfl
      have d3 : wr.cell? ⟨w.heap.size + 1, 3, none⟩ = some (.slice none 0 0) := cell_of HB1.out rfl
      have f0 : ∀ j, wr.frozen? ⟨w.heap.size + 1, j, none⟩ = false := fun j => by simp [World.frozen?, HB1.out]
      have f00 := f0 0
      have f01 := f0 1
      have f02 := f0 2
      have f03 := f0 3
      rw [List.take_length] at HV
      obtain ⟨A2, c2, rfl, hc2, hC2⟩ := FT_reads _ _ _ _ _ HV.out
      dsimp only at hc2 e3 ⊢
      change Hid (FT _ _ wr (.slice A2 af.length c2) _) at HV
      clear hlt f0 hC2 HI
      have hbz : Below w.heap.size w ((((wr.setCell ⟨w.heap.size + 1, 0, none⟩ (.string an)).setCell ⟨w.heap.size + 1, 1, none⟩ (.int .u8 ak)).setCell ⟨w.heap.size + 1, 2, none⟩ (.string ad)).setCell ⟨w.heap.size + 1, 3, none⟩ (.slice A2 af.length c2)) :=
        (((hb.setCell (by simp only; omega) _).setCell (by simp only; omega) _).setCell (by simp only; omega) _).setCell (by simp only; omega) _
      have hVz : FT w.heap.size ⟨an, ak, ad, af⟩ ((((wr.setCell ⟨w.heap.size + 1, 0, none⟩ (.string an)).setCell ⟨w.heap.size + 1, 1, none⟩ (.int .u8 ak)).setCell ⟨w.heap.size + 1, 2, none⟩ (.string ad)).setCell ⟨w.heap.size + 1, 3, none⟩ (.slice A2 af.length c2)) (.slice A2 af.length c2) bl :=
        FT_move _ _ _ _ _ _ HV.out fun j hj => by
          have hj3 := HN1.out.2 j hj
          exact (Below.heap_setCell _ _ _ _ (by simp only; omega)).trans ((Below.heap_setCell _ _ _ _ (by simp only; omega)).trans ((Below.heap_setCell _ _ _ _ (by simp only; omega)).trans (Below.heap_setCell _ _ _ _ (by simp only; omega))))
      have HBZ := Lib.hid hbz
      have HVZ := Lib.hid hVz
      clear hbz hVz
      have HH : Hid (((((wr.setCell ⟨w.heap.size + 1, 0, none⟩ (.string an)).setCell ⟨w.heap.size + 1, 1, none⟩ (.int .u8 ak)).setCell ⟨w.heap.size + 1, 2, none⟩ (.string ad)).setCell ⟨w.heap.size + 1, 3, none⟩ (.slice A2 af.length c2)).heap[w.heap.size + 1]? = some (.cells #[.string an, .int .u8 ak, .string ad, .slice A2 af.length c2] 25 (0, 0))) :=
        Lib.hid (blk_put (cs := #[.string an, .int .u8 ak, .string ad, .slice none 0 0]) (blk_put (cs := #[.string an, .int .u8 ak, .string ⟨#[]⟩, .slice none 0 0]) (blk_put (cs := #[.string an, .int .u8 0, .string ⟨#[]⟩, .slice none 0 0]) (blk_put (cs := #[.string ⟨#[]⟩, .int .u8 0, .string ⟨#[]⟩, .slice none 0 0]) HB1.out 0 _ rfl) 1 _ rfl) 2 _ rfl) 3 _ rfl)
      go_wp2_with fail
      refine bodyPost_ret (results_cell_row rfl _ _ (w.heap.size + 1) 25 #[.string an, .int .u8 ak, .string ad, .slice A2 af.length c2] (0, 0) _ rfl HH.out Tryd.underlying25 rfl (by kernel_rfl)) rfl ?_
      exact ⟨_, rfl, _, HVZ.out, HN1.out.1, HBZ.out⟩
end Go.Proofs.YthlcjjhfkldmhaaDoor.G
