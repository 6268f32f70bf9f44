/- trees.Put. Printed by wip/tools/gen_put.py. -/
import Derived.Test.YthlcjjhfkldmhaaDoorTTurn
set_option linter.unusedVariables false
set_option linter.unusedSimpArgs false
namespace Go.Proofs.YthlcjjhfkldmhaaDoor.G
open Go.RowKit Go.Lib Go.Proofs.YthlcjjhfkldmhaaDoorW.PrintWords Go.Proofs.YthlcjjhfkldmhaaDoorW.PrintLast
set_option linter.unusedVariables false
set_option linter.unusedSimpArgs false

/-- Those that have come up, as bits. -/
def bp (n m : Nat) : Array Bool := ((List.range n).map (fun j => m.testBit j)).toArray
theorem Reach_below {w w' : World} (hb : Below w.heap.size w w') : ∀ {p : List ByteArray} {ad : Addr} {f : File} {ad' : Addr} {y : File}, Reach w ad f p ad' y → Reach w' ad f p ad' y
  | [], _, _, _, _, h => h
  | n :: p, ad, f, ad', y, ⟨b, c, x, h1, h2, h3⟩ => ⟨b, c, x, (hb.cell (World.block_lt_of_cell? w _ h1)).trans h1, h2, Reach_below hb h3⟩
theorem cell_same {W W' : World} {g : Nat} (h : W.heap[g]? = W'.heap[g]?) (j : Nat) : W.cell? ⟨g, j, none⟩ = W'.cell? ⟨g, j, none⟩ := by simp [World.cell?, h]
theorem three_all (w : World) (cs ds es : Array Value) (t u v : TypeId) : (((w.alloc (.cells cs t)).alloc (.cells ds u)).alloc (.cells es v)).heap[w.heap.size]? = some (.cells cs t (0, 0)) ∧ (((w.alloc (.cells cs t)).alloc (.cells ds u)).alloc (.cells es v)).heap[w.heap.size + 1]? = some (.cells ds u (0, 0)) ∧ (((w.alloc (.cells cs t)).alloc (.cells ds u)).alloc (.cells es v)).heap[w.heap.size + 2]? = some (.cells es v (0, 0)) :=
  ⟨(Below.heap_alloc _ _ _ (by simp; omega)).trans (two_boxes w cs ds t u).1, (Below.heap_alloc _ _ _ (by simp)).trans (two_boxes w cs ds t u).2, three_boxes w cs ds es t u v⟩

set_option maxHeartbeats 8000000 in
set_option maxRecDepth 100000 in
theorem put_calls (t f : File) (A Af : Option Addr) (c cf : Nat) (Ap : Option Addr) (cp : Nat) (q : List ByteArray) (n : ByteArray) (w : World) (hr : FileK.C w A t.files.length t.files) (hc : t.files.length ≤ c) (hbt : t.bulk ≤ 1000000000) (hf : FileK.C w Af f.files.length f.files) (hcf : f.files.length ≤ cf) (hbf : f.bulk ≤ 1000000000) (hn : n.size ≤ 1000000000) (hp : Kd.C Kd.string w Ap (q ++ [n]).length (q ++ [n])) (hcp : q.length + 1 ≤ cp) (hpl : q.length ≤ 1000000000) :
    Calls Tryd.prog 87 #[fileV t A c, .slice Ap (q.length + 1) cp, fileV f Af cf] w fun e w' => ∃ A' c', e = .returned (.tuple #[.agg #[.string (putR t q n f).1.name, .int .u8 (putR t q n f).1.kind, .string (putR t q n f).1.data, .slice A' (putR t q n f).1.files.length c'], .int .i64 (putR t q n f).2]) ∧ (putR t q n f).1.files.length ≤ c' ∧ (∀ W' : World, (∀ k, w.heap.size ≤ k → k < w'.heap.size → W'.heap[k]? = w'.heap[k]?) → FileK.C W' A' (putR t q n f).1.files.length (putR t q n f).1.files) ∧ Below w.heap.size w w' := by
  have h3 := three_all w #[.string t.name, .int .u8 t.kind, .string t.data, .slice A t.files.length c] #[.string f.name, .int .u8 f.kind, .string f.data, .slice Af f.files.length cf] #[.string ⟨#[]⟩, .int .u8 0, .string ⟨#[]⟩, .slice none 0 0] 25 25 25
  have hb0 := (((Below.refl w.heap.size w).alloc (Nat.le_refl _) (.cells #[.string t.name, .int .u8 t.kind, .string t.data, .slice A t.files.length c] 25)).alloc (by simp) (.cells #[.string f.name, .int .u8 f.kind, .string f.data, .slice Af f.files.length cf] 25)).alloc (by simp; omega) (.cells #[.string ⟨#[]⟩, .int .u8 0, .string ⟨#[]⟩, .slice none 0 0] 25)
  have HP := Lib.hid hp
  have HT := Lib.hid hr
  have HF := Lib.hid hf
  have HGR : Hid (putR t q n f = if rightT t = true then (match goP t q with
      | (_, some d) => if d.kind = 1 then (if rightT (putP t q { d with files := insF d.files (nameF f n) }) = true then (putP t q { d with files := insF d.files (nameF f n) }, 0) else (zeroF, 30)) else (zeroF, 32)
      | (k, none) => (zeroF, k)) else (zeroF, 30)) := Lib.hid rfl
  generalize putR t q n f = gr at *
  have HRT := Lib.hid (fun W (h : Below w.heap.size w W) => (show Calls Tryd.prog 45 #[.agg #[.string t.name, .int .u8 t.kind, .string t.data, .slice A t.files.length c]] W _ from right_calls t A c W (by omega) (Kd.C_below hr h) hc))
  have HCP := Lib.hid (fun W (h : Below w.heap.size w W) => (show Calls Tryd.prog 42 #[.agg #[.string t.name, .int .u8 t.kind, .string t.data, .slice A t.files.length c]] W _ from copy_apart t.bulk t A c W (Nat.le_refl _) (by omega) (Kd.C_below hr h) hc))
  have HCF := Lib.hid (fun W (h : Below w.heap.size w W) => (show Calls Tryd.prog 42 #[.agg #[.string f.name, .int .u8 f.kind, .string f.data, .slice Af f.files.length cf]] W _ from copy_apart f.bulk f Af cf W (Nat.le_refl _) (by omega) (Kd.C_below hf h) hcf))
  have HQ := Lib.hid (show Kd.C Kd.string w Ap q.length q from by
    have h1 := Kd.C_take hp (m := q.length) (by simp)
    rwa [List.take_left'  rfl] at h1)
  have HGC := Lib.hid (fun W ad A' c' (h : Below w.heap.size w W) h1 h2 => get_calls t ad A' c' Ap cp q W h1 (by omega) h2 (Kd.C_below HQ.out h) (by omega) (by omega))
  have H1 := Lib.hid h3.1
  have H2 := Lib.hid h3.2.1
  have H3 := Lib.hid h3.2.2
  have t0 := cell_of (j := 0) h3.1 rfl
  have t1 := cell_of (j := 1) h3.1 rfl
  have t2 := cell_of (j := 2) h3.1 rfl
  have t3 := cell_of (j := 3) h3.1 rfl
  have hk1 : ((q.length : Int) + 1 - 1) = (q.length : Int) := by omega
  clear hp hr hf h3
  go_enter Tryd.func87, Tryd.ntmps87
  unfold fileV
  go_wp2_with fail
  generalize (((w.alloc (.cells #[.string t.name, .int .u8 t.kind, .string t.data, .slice A t.files.length c] 25)).alloc (.cells #[.string f.name, .int .u8 f.kind, .string f.data, .slice Af f.files.length cf] 25)).alloc (.cells #[.string ⟨#[]⟩, .int .u8 0, .string ⟨#[]⟩, .slice none 0 0] 25)) = W0 at *
  have hz0 := blk_lt H3.out
  refine (HRT.out _ hb0).mono ?_
  rintro e w1 ⟨rfl, hb1'⟩
  have hs1 := hb1'.size
  have hb1 := bstep hb0 hb0.size hb1'
  have H11 := Lib.hid ((hb1'.block _ (blk_lt H1.out)).trans H1.out)
  have H21 := Lib.hid ((hb1'.block _ (blk_lt H2.out)).trans H2.out)
  have HZ1 := Lib.hid ((hb1'.block _ (blk_lt H3.out)).trans H3.out)
  clear t0 t1 t2 t3
  cases hrt : rightT t
  · have HG : Hid (gr = (zeroF, 30)) := Lib.hid (by rw [HGR.out, if_neg (by rw [hrt]; decide)])
    have HZ9 := Lib.hid (store4_box HZ1.out (.string ⟨#[]⟩) (.int .u8 0) (.string ⟨#[]⟩) (.slice none 0 0))
    have HB9 := Lib.hid (store4_below hb1 (g := w.heap.size + 2) (by omega) (.string ⟨#[]⟩) (.int .u8 0) (.string ⟨#[]⟩) (.slice none 0 0))
    have z0 := cell_of (j := 0) HZ1.out rfl
    have z1 := cell_of (j := 1) HZ1.out rfl
    have z2 := cell_of (j := 2) HZ1.out rfl
    have z3 := cell_of (j := 3) HZ1.out rfl
    have u0 := unfr HZ1.out 0
    have u1 := unfr HZ1.out 1
    have u2 := unfr HZ1.out 2
    have u3 := unfr HZ1.out 3
    go_wp2_with fail
    refine bodyPost_ret (results_ct rfl _ _ (w.heap.size + 2) 25 #[.string ⟨#[]⟩, .int .u8 0, .string ⟨#[]⟩, .slice none 0 0] (0, 0) _ rfl HZ9.out Tryd.underlying25 rfl (by kernel_rfl)) rfl ?_
    rw [HG.out]
    exact ⟨none, 0, rfl, Nat.le_refl _, fun _ _ => Kd.C_nil FileK _, HB9.out⟩
  · have HG1 := HGR.out
    rw [if_pos hrt] at HG1
    have HG2 := Lib.hid HG1
    have HS := Lib.hid (right_sort hrt)
    clear HG1
    have t0 := cell_of (j := 0) H11.out rfl
    have t1 := cell_of (j := 1) H11.out rfl
    have t2 := cell_of (j := 2) H11.out rfl
    have t3 := cell_of (j := 3) H11.out rfl
    go_wp2_with fail
    refine (HCP.out _ hb1).mono ?_
    rintro e w2 ⟨v, bl, rfl, hft, hnd, hb2'⟩
    have hs2 := hb2'.size
    have hb2 := bstep hb1 hb1.size hb2'
    have H22 := Lib.hid ((hb2'.block _ (blk_lt H21.out)).trans H21.out)
    have HZ2 := Lib.hid ((hb2'.block _ (blk_lt HZ1.out)).trans HZ1.out)
    have hz1 := blk_lt HZ1.out
    clear t0 t1 t2 t3
    obtain ⟨A1, c1, rfl, hc1, hC1⟩ := FT_reads _ _ _ _ _ hft
    have hba : Below w2.heap.size w2 (w2.alloc (.cells #[.string t.name, .int .u8 t.kind, .string t.data, .slice A1 t.files.length c1] 25)) := below_alloc (Below.refl _ _) _
    have HH3 : Hid (HeldC w2.heap.size w1.heap.size t (.slice A1 t.files.length c1) bl (w2.alloc (.cells #[.string t.name, .int .u8 t.kind, .string t.data, .slice A1 t.files.length c1] 25))) := Lib.hid ⟨blk_new w2 _, FT_below hft hba, hnd, fun k hk e => by have := (FT_lt _ _ _ _ _ hft k hk).1; omega⟩
    have hb3 := bstep hb2 hb2.size hba
    have H23 := Lib.hid ((hba.block _ (blk_lt H22.out)).trans H22.out)
    have HZ3 := Lib.hid ((hba.block _ (blk_lt HZ2.out)).trans HZ2.out)
    have HBL2 := Lib.hid (FT_lt _ _ _ _ _ hft)
    clear hft hnd hC1 hba
    go_wp2_with fail
    generalize w2.alloc (.cells #[.string t.name, .int .u8 t.kind, .string t.data, .slice A1 t.files.length c1] 25) = W3 at *
    have hz3 := blk_lt HH3.out.box
    obtain ⟨A2, c2, he2, hat2⟩ := HH3.out.at
    injection he2 with e1 _ e2
    subst e1
    subst e2
    refine (HGC.out W3 _ _ _ hb3 hat2 HS.out).mono ?_
    clear hat2
    rintro e w4 ⟨hb4', ⟨ad', d, A', c', hgo, rfl, hat, hre, hdb, hds⟩ | ⟨k, hk0, hgo, rfl⟩⟩
    rotate_left
    · have HG : Hid (gr = (zeroF, k)) := Lib.hid (by rw [HG2.out, hgo])
      have k1 : (k != 0) = true := by rw [bne_iff_ne]; exact hk0
      have hs4 := hb4'.size
      have hb4 := bstep hb3 hb3.size hb4'
      have HZ4 := Lib.hid ((hb4'.block _ (blk_lt HZ3.out)).trans HZ3.out)
      clear hgo
      have HZ9 := Lib.hid (store4_box HZ4.out (.string ⟨#[]⟩) (.int .u8 0) (.string ⟨#[]⟩) (.slice none 0 0))
      have HB9 := Lib.hid (store4_below hb4 (g := w.heap.size + 2) (by omega) (.string ⟨#[]⟩) (.int .u8 0) (.string ⟨#[]⟩) (.slice none 0 0))
      have z0 := cell_of (j := 0) HZ4.out rfl
      have z1 := cell_of (j := 1) HZ4.out rfl
      have z2 := cell_of (j := 2) HZ4.out rfl
      have z3 := cell_of (j := 3) HZ4.out rfl
      have u0 := unfr HZ4.out 0
      have u1 := unfr HZ4.out 1
      have u2 := unfr HZ4.out 2
      have u3 := unfr HZ4.out 3
      go_wp2_with fail
      refine bodyPost_ret (results_ct rfl _ _ (w.heap.size + 2) 25 #[.string ⟨#[]⟩, .int .u8 0, .string ⟨#[]⟩, .slice none 0 0] (0, 0) _ rfl HZ9.out Tryd.underlying25 rfl (by kernel_rfl)) rfl ?_
      rw [HG.out]
      exact ⟨none, 0, rfl, Nat.le_refl _, fun _ _ => Kd.C_nil FileK _, HB9.out⟩

    · have hg2 := HG2.out
      rw [hgo] at hg2
      simp only at hg2
      have hs4 := hb4'.size
      have hb4 := bstep hb3 hb3.size hb4'
      have H24 := Lib.hid ((hb4'.block _ (blk_lt H23.out)).trans H23.out)
      have HZ4 := Lib.hid ((hb4'.block _ (blk_lt HZ3.out)).trans HZ3.out)
      have HH4 := Lib.hid (HH3.out.below hb4')
      have x1 := (hb4'.cell (World.block_lt_of_cell? _ _ hat.c1)).trans hat.c1
      have HRE := Lib.hid (Reach_below hb4' hre)
      have HGO := Lib.hid hgo
      have HAT := Lib.hid (⟨(hb4'.cell (World.block_lt_of_cell? _ _ hat.c3)).trans hat.c3, hat.le, Kd.C_below hat.ch hb4'⟩ : w4.cell? ⟨ad'.block, ad'.off + 3, none⟩ = some (.slice A' d.files.length c') ∧ d.files.length ≤ c' ∧ FileK.C w4 A' d.files.length d.files)
      have HDS := Lib.hid hds
      clear hgo hat hre hds
      by_cases hk : d.kind = 1
      rotate_left
      · rw [if_neg hk] at hg2
        have HG := Lib.hid hg2
        have k1 : (d.kind != 1) = true := by rw [bne_iff_ne]; exact hk
        clear hg2 hk
        have HZ9 := Lib.hid (store4_box HZ4.out (.string ⟨#[]⟩) (.int .u8 0) (.string ⟨#[]⟩) (.slice none 0 0))
        have HB9 := Lib.hid (store4_below hb4 (g := w.heap.size + 2) (by omega) (.string ⟨#[]⟩) (.int .u8 0) (.string ⟨#[]⟩) (.slice none 0 0))
        have z0 := cell_of (j := 0) HZ4.out rfl
        have z1 := cell_of (j := 1) HZ4.out rfl
        have z2 := cell_of (j := 2) HZ4.out rfl
        have z3 := cell_of (j := 3) HZ4.out rfl
        have u0 := unfr HZ4.out 0
        have u1 := unfr HZ4.out 1
        have u2 := unfr HZ4.out 2
        have u3 := unfr HZ4.out 3
        go_wp2_with fail
        refine bodyPost_ret (results_ct rfl _ _ (w.heap.size + 2) 25 #[.string ⟨#[]⟩, .int .u8 0, .string ⟨#[]⟩, .slice none 0 0] (0, 0) _ rfl HZ9.out Tryd.underlying25 rfl (by kernel_rfl)) rfl ?_
        rw [HG.out]
        exact ⟨none, 0, rfl, Nat.le_refl _, fun _ _ => Kd.C_nil FileK _, HB9.out⟩

      · rw [if_pos hk] at hg2
        have HG3 := Lib.hid hg2
        clear hg2
        have f0 := cell_of (j := 0) H24.out rfl
        have f1 := cell_of (j := 1) H24.out rfl
        have f2 := cell_of (j := 2) H24.out rfl
        have f3 := cell_of (j := 3) H24.out rfl
        go_wp2_with fail
        refine (HCF.out _ hb4).mono ?_
        rintro e w5 ⟨vx, bz, rfl, hfx, hzn, hb5'⟩
        have hs5 := hb5'.size
        have hb5 := bstep hb4 hb4.size hb5'
        have H25 := Lib.hid ((hb5'.block _ (blk_lt H24.out)).trans H24.out)
        have HZ5 := Lib.hid ((hb5'.block _ (blk_lt HZ4.out)).trans HZ4.out)
        have HH5 := Lib.hid (HH4.out.below hb5')
        have HRE5 := Lib.hid (Reach_below hb5' HRE.out)
        have HBZ := Lib.hid (FT_lt _ _ _ _ _ hfx)
        clear f0 f1 f2 f3
        obtain ⟨A3, c3, rfl, hc3, hC3⟩ := FT_reads _ _ _ _ _ hfx
        clear hC3
        have hb57 : Below w5.heap.size w5 (w5.alloc (.cells #[.string n, .int .u8 f.kind, .string f.data, .slice A3 f.files.length c3] 25)) := below_alloc (Below.refl _ _) _
        have hb6 := bstep hb5 hb5.size (below_alloc (Below.refl w5.heap.size w5) (.cells #[.string f.name, .int .u8 f.kind, .string f.data, .slice A3 f.files.length c3] 25))
        have HXB6 := Lib.hid (blk_new w5 (.cells #[.string f.name, .int .u8 f.kind, .string f.data, .slice A3 f.files.length c3] 25))
        have HXB7 := Lib.hid (blk_new w5 (.cells #[.string n, .int .u8 f.kind, .string f.data, .slice A3 f.files.length c3] 25))
        have hs7 : (w5.alloc (.cells #[.string n, .int .u8 f.kind, .string f.data, .slice A3 f.files.length c3] 25)).heap.size = w5.heap.size + 1 := by simp
        obtain ⟨pad, rfl, hx⟩ := Kd.at_string HP.out (q.length : Int) (by omega) (by simp; omega)
        rw [Int.toNat_natCast] at hx
        have he : rdOf ByteArray.empty (q ++ [n]) (q.length : Int) = n := by simp [rdOf]
        rw [he] at hx
        clear he
        have p0 := cell_of (j := 0) HXB6.out rfl
        have pf0 := unfr HXB6.out 0
        have hx6 := (hb6.cell (World.block_lt_of_cell? w _ hx)).trans hx
        clear hx
        go_wp2_with fail
        clear p0 pf0 hx6
        generalize w5.alloc (.cells #[.string n, .int .u8 f.kind, .string f.data, .slice A3 f.files.length c3] 25) = W7 at *
        have hb7 := bstep hb5 hb5.size hb57
        have HZ7 := Lib.hid ((hb57.block _ (blk_lt HZ5.out)).trans HZ5.out)
        have HH7 := Lib.hid (HH5.out.below hb57)
        have HRE7 := Lib.hid (Reach_below hb57 HRE5.out)
        have HFX7 := Lib.hid (FT_below hfx hb57)
        clear hfx hb6 HXB6
        obtain ⟨g, o, v', inner, bs, rfl, hc, ⟨gcs, hgc⟩, hgm, ho, hL, hN, hbs, hvb, hT⟩ := turnC HH7.out HRE7.out
        have y3 : W7.cell? ⟨g, o + 3, none⟩ = some (.slice A' d.files.length c') := by
          have h1 := HAT.out.1
          have h2 := (hb5'.cell (World.block_lt_of_cell? _ _ h1)).trans h1
          exact (hb57.cell (World.block_lt_of_cell? _ _ h2)).trans h2
        obtain rfl : v' = .slice A' d.files.length c' := by
          rw [y3] at hc
          injection hc with hc
          exact hc.symm
        have yn : W7.drew.cell? ⟨w5.heap.size, 0, none⟩ = some (.string n) := cell_of (j := 0) HXB7.out rfl
        have hss := HDS.out
        rw [SortF_eq] at hss
        have hdl := bulkL_len d.files
        have hde := bulk_eq d
        have HFI := Lib.hid (fun W (h : Below W7.heap.size W7 W) => find_calls A' c' d.files n W (Kd.C_below (Kd.C_below (Kd.C_below HAT.out.2.2 hb5') hb57) h) HAT.out.2.1 (by omega) hss.1)
        have HT9 := Lib.hid hT
        have HO9 := Lib.hid ho
        have HL9 := Lib.hid hL
        have HVB := Lib.hid hvb
        have HBS := Lib.hid hbs
        have hdl2 : d.files.length ≤ 1000000000 := by omega
        clear hT ho hL hvb hbs hss hdl hde hc
        have y3d : W7.drew.cell? ⟨g, o + 3, none⟩ = some (.slice A' d.files.length c') := y3
        go_region_with (go_at_call 57; refine (HFI.out _ (bdrew (Below.refl _ _))).mono ?_; rintro e w8 ⟨rfl, hb8'⟩)
        all_goals
          have hb8 : Below W7.heap.size W7 w8 := (bdrew (Below.refl W7.heap.size W7)).trans hb8'
          have hs8 := hb8.size
          have hz7 := blk_lt HZ7.out
          have hxb7 := blk_lt HXB7.out
          have hgl : g < W7.heap.size := blk_lt hgc
          have HZ8 := Lib.hid ((hb8.block _ hz7).trans HZ7.out)
          have HXB8 := Lib.hid ((hb8.block _ hxb7).trans HXB7.out)
          have HGC8 := Lib.hid ((hb8.block _ hgl).trans hgc)
          have y38 : w8.cell? ⟨g, o + 3, none⟩ = some (.slice A' d.files.length c') := (hb8.cell (p := ⟨g, o + 3, none⟩) hgl).trans y3
          have hb8w := bstep hb7 hb7.size hb8
          have htbl := blk_lt HH7.out.box
          have hbW1 : ∀ k ∈ bl, k < w2.heap.size ∧ w1.heap.size ≤ k := HBL2.out
          have hs8d : w8.drew.heap.size = w8.heap.size := rfl
          have Y3 := Lib.hid y3
          have hFN : FT w1.heap.size (nameF f n) W7 (.slice A3 f.files.length c3) bz := by
            have h1 := FT_lower (B' := w1.heap.size) (by omega) _ _ _ _ HFX7.out
            rw [FT_eq] at h1 ⊢
            exact h1
          have HFN := Lib.hid hFN
          clear y3 y3d yn hb8' hFN
          cases hfb : foundB d.files n
          · obtain ⟨i, hi⟩ : ∃ i, lowB d.files n = i := ⟨_, rfl⟩
            have hil := low_le d.files n
            rw [hi] at hil
            have HI9 := Lib.hid hi
            have HFB := Lib.hid hfb
            rw [hi]
            have ho8 : w8.drew.ownsRow w1.heap.size 25 4 (.slice A' d.files.length c') d.files.length inner := own_move HO9.out fun k hk => hb8.block k (own_lt HO9.out k hk)
            have HINS : Hid (Calls Tryd.prog 97 #[.slice A' d.files.length c', .int .i64 i, .slice (some ⟨w8.heap.size, 0, none⟩) 1 1] (w8.drew.alloc (.cells #[.string n, .int .u8 f.kind, .string f.data, .slice A3 f.files.length c3] 25)) _) := Lib.hid (insert_calls (.slice A' d.files.length c') d.files.length inner [.string n, .int .u8 f.kind, .string f.data, .slice A3 f.files.length c3] i w1.heap.size w8.drew ho8 (by omega) hil rfl (by intro u hu; simp only [List.mem_cons, List.not_mem_nil, or_false] at hu; rcases hu with rfl | rfl | rfl | rfl <;> rfl) (LT_one' _ _ _ _ HL9.out) (by omega))
            have hba := below_alloc (Below.refl w8.drew.heap.size w8.drew) (.cells #[.string n, .int .u8 f.kind, .string f.data, .slice A3 f.files.length c3] 25)
            have y3a := (hba.cell (p := ⟨g, o + 3, none⟩) (by simp only; omega)).trans y38
            have HXBa := Lib.hid ((hba.block w5.heap.size (by omega)).trans HXB8.out)
            clear hi hfb ho8 hba
            go_wp2_with fail
            refine start_ (n := 12) (S := fun w' => w'.cell? ⟨g, o + 3, none⟩ = some (.slice A' d.files.length c') ∧ w'.heap[w5.heap.size]? = some (.cells #[.string n, .int .u8 f.kind, .string f.data, .slice A3 f.files.length c3] 25 (0, 0))) (ds := [11]) (bp 12 0) (by kernel_rfl) rfl rfl ⟨y38, HXB8.out⟩ (fun hHeld => ?_)
            refine pure_ (i := 0) (N := some 70) (v := ?_) (a' := ?_) (bp 12 1) rfl rfl (by kernel_rfl) (fun _ _ _ h => h) (Or.inl ⟨by rfl, ?_⟩) ?_ ?_
            rotate_left
            · intro w'
              go_simp
              with_reducible rfl
            rotate_left
            · simp only [Act.put, List.setIfInBounds_toArray, List.set_cons_zero, List.set_cons_succ, i64_w, i32_w]
              rfl
            refine pure_ (i := 1) (N := some 71) (v := ?_) (a' := ?_) (bp 12 3) rfl rfl (by kernel_rfl) (fun _ _ _ h => h) (Or.inl ⟨by rfl, ?_⟩) ?_ ?_
            rotate_left
            · intro w'
              go_simp
              with_reducible rfl
            rotate_left
            · simp only [Act.put, List.setIfInBounds_toArray, List.set_cons_zero, List.set_cons_succ, i64_w, i32_w]
              rfl
            refine pure_ (i := 2) (N := some 72) (v := ?_) (a' := ?_) (bp 12 7) rfl rfl (by kernel_rfl) (fun _ _ _ h => h) (Or.inl ⟨by rfl, ?_⟩) ?_ ?_
            rotate_left
            · intro w'
              go_simp
              with_reducible rfl
            rotate_left
            · simp only [Act.put, List.setIfInBounds_toArray, List.set_cons_zero, List.set_cons_succ, i64_w, i32_w]
              rfl
            refine pure_ (i := 3) (N := some 73) (v := ?_) (a' := ?_) (bp 12 15) rfl rfl (by kernel_rfl) (fun _ _ _ h => h) (Or.inl ⟨by rfl, ?_⟩) ?_ ?_
            rotate_left
            · intro w'
              go_simp
              with_reducible rfl
            rotate_left
            · simp only [Act.put, List.setIfInBounds_toArray, List.set_cons_zero, List.set_cons_succ, i64_w, i32_w]
              rfl
            refine pure_ (i := 5) (N := some 75) (v := ?_) (a' := ?_) (bp 12 47) rfl rfl (by kernel_rfl) (fun _ _ _ h => h) (Or.inl ⟨by rfl, ?_⟩) ?_ ?_
            rotate_left
            · intro w'
              go_simp
              with_reducible rfl
            rotate_left
            · simp only [Act.put, List.setIfInBounds_toArray, List.set_cons_zero, List.set_cons_succ, i64_w, i32_w]
              rfl
            refine take_ (i := 4) (N := some 74) (v := ?_) (a' := ?_) (bp 12 63) rfl rfl (by kernel_rfl) (fun _ _ _ h => h) (Or.inl ⟨by rfl, ?_⟩) hHeld ?_ ?_
            rotate_left
            · rintro w' ⟨s0, s1⟩
              go_simp
              with_reducible rfl
            rotate_left
            · simp only [Act.put, List.setIfInBounds_toArray, List.set_cons_zero, List.set_cons_succ, i64_w, i32_w]
              rfl
            refine take_ (i := 6) (N := some 76) (v := ?_) (a' := ?_) (bp 12 127) rfl rfl (by kernel_rfl) (fun _ _ _ h => h) (Or.inl ⟨by rfl, ?_⟩) hHeld ?_ ?_
            rotate_left
            · rintro w' ⟨s0, s1⟩
              have q0 := cell_of (j := 0) s1 rfl
              have q1 := cell_of (j := 1) s1 rfl
              have q2 := cell_of (j := 2) s1 rfl
              have q3 := cell_of (j := 3) s1 rfl
              go_simp
              with_reducible rfl
            rotate_left
            · simp only [Act.put, List.setIfInBounds_toArray, List.set_cons_zero, List.set_cons_succ, i64_w, i32_w]
              rfl
            refine one_ (i := 7) (N := some 77) (bp 12 255) rfl rfl (by kernel_rfl) (by decide) (fun K hK => ?_)
            refine value_ (w1 := ?_) (v := ?_) (by rfl) rfl ?_ ?_
            rotate_left 2
            · go_simp
              constructor
              · rfl
              · rfl
            refine hK.out _ _ ⟨y3a, HXBa.out⟩ (fun hHeld => ?_)
            refine norm_ (a' := ?_) ?_ ?_
            rotate_left
            · show Act.put _ (some 77) _ = _
              simp only [Act.put, List.setIfInBounds_toArray, List.set_cons_zero, List.set_cons_succ, i64_w, i32_w]
              rfl
            refine one_ (i := 8) (N := some 78) (bp 12 511) rfl rfl (by kernel_rfl) (by decide) (fun K hK => ?_)
            refine goes_ Tryd.func97 (by kernel_rfl) rfl #[.slice A' d.files.length c', .int .i64 i, .slice (some ⟨w8.heap.size, 0, none⟩) 1 1] (by rfl) rfl rfl (by simp only [List.map_toArray, List.map_cons, List.map_nil]; rfl) ?_
            refine HINS.out.mono ?_
            rintro e w9 ⟨v2, rfl, hown9, hon9, hor9⟩
            refine ⟨_, rfl, ?_⟩
            have HOWN9 := Lib.hid hown9
            have HON9 := Lib.hid hon9
            have HOR9 := Lib.hid hor9
            have hgr : ¬ ((Value.slice A' d.files.length c').ownBlock = some g) := fun e => (HVB.out g e).2.1 rfl
            have hgx : ¬ ((Value.slice A' d.files.length c').ownBlock = some w5.heap.size) := fun e => by have := (HBL2.out _ (HVB.out _ e).1).1; omega
            have hs89 := hon9.size
            have hs8d : w8.drew.heap.size = w8.heap.size := rfl
            have HG9 := Lib.hid (hon9.block g (by omega) hgr)
            have HX9 := Lib.hid ((hon9.block w5.heap.size (by omega) hgx).trans HXB8.out)
            have y39 : w9.cell? ⟨g, o + 3, none⟩ = some (.slice A' d.files.length c') := (cell_same (HG9.out) (o + 3)).trans y38
            have yf9 : w9.frozen? ⟨g, o + 3, none⟩ = false := unfr (HG9.out.trans HGC8.out) (o + 3)
            obtain ⟨A2', c2', rfl⟩ := own_slice hown9
            clear hown9 hon9 hor9 hHeld
            refine hK.out _ _ ⟨y39, HX9.out⟩ (fun hHeld => ?_)
            refine norm_ (a' := ?_) ?_ ?_
            rotate_left
            · show Act.put _ (some 78) _ = _
              simp only [Act.put, List.setIfInBounds_toArray, List.set_cons_zero, List.set_cons_succ, i64_w, i32_w]
              rfl
            refine pure_ (i := 9) (N := some 79) (v := ?_) (a' := ?_) (bp 12 1023) rfl rfl (by kernel_rfl) (fun _ _ _ h => h) (Or.inl ⟨by rfl, ?_⟩) ?_ ?_
            rotate_left
            · intro w'
              go_simp
              with_reducible rfl
            rotate_left
            · simp only [Act.put, List.setIfInBounds_toArray, List.set_cons_zero, List.set_cons_succ, i64_w, i32_w]
              rfl
            refine pure_ (i := 10) (N := some 80) (v := ?_) (a' := ?_) (bp 12 2047) rfl rfl (by kernel_rfl) (fun _ _ _ h => h) (Or.inl ⟨by rfl, ?_⟩) ?_ ?_
            rotate_left
            · intro w'
              go_simp
              with_reducible rfl
            rotate_left
            · simp only [Act.put, List.setIfInBounds_toArray, List.set_cons_zero, List.set_cons_succ, i64_w, i32_w]
              rfl
            refine last_ (i := 11) (N := none) (bp 12 4095) rfl rfl (by kernel_rfl) (by decide) (fun K hK => ?_)
            refine skip_ (w1 := ?_) (by rfl) rfl ?_ ?_
            rotate_left
            · go_simp
              rfl
            refine hK.out _ _ ?_
            refine done_ (by kernel_rfl) ?_

            have hO9 : Only (fun k => k = g ∨ (Value.slice A' d.files.length c').ownBlock = some k) w8 (w9.setCell ⟨g, o + 3, none⟩ (.slice A2' (d.files.length + 1) c2')) :=
              ((Only.refl (fun k => k = g) w8).drew.trans HON9.out (fun k _ h => .inl h) (fun k _ h => .inr h)).trans (Only.setCell w9 ⟨g, o + 3, none⟩ _) (fun k _ h => h) (fun k _ h => .inl h)
            obtain ⟨g2, hg2⟩ : ∃ g2, (Value.slice A2' (d.files.length + 1) c2').ownBlock = some g2 := by
              rcases HOWN9.out.2 with ⟨_, h0⟩ | ⟨g', cap, cur, hvv, _⟩
              · omega
              · exact ⟨g', by rw [hvv]; rfl⟩
            have hor2 : (Value.slice A' d.files.length c').ownBlock = some g2 ∨ W7.heap.size ≤ g2 := by
              rcases HOR9.out with h | ⟨N, h, hN⟩
              · exact .inl (h.symm.trans hg2)
              · rw [hg2] at h
                injection h with h
                exact .inr (by rw [h]; omega)
            have hg2g : g2 ≠ g := fun e => by
              rcases hor2 with h | h
              · exact (HVB.out g2 h).2.1 e
              · omega
            have hrow9 : (w9.setCell ⟨g, o + 3, none⟩ (.slice A2' (d.files.length + 1) c2')).ownsRow w1.heap.size 25 4 (.slice A2' (d.files.length + 1) c2') (d.files.length + 1) (putCs inner [.string n, .int .u8 f.kind, .string f.data, .slice A3 f.files.length c3] i) :=
              own_move HOWN9.out fun k hk => Below.heap_setCell _ _ _ _ (fun e => hg2g (by rw [hg2] at hk; injection hk with hk; exact hk.trans e))
            have hgW : (w9.setCell ⟨g, o + 3, none⟩ (.slice A2' (d.files.length + 1) c2')).heap[g]? = (W7.setCell ⟨g, o + 3, none⟩ (.slice A2' (d.files.length + 1) c2')).heap[g]? := setCell_same ⟨g, o + 3, none⟩ _ (HG9.out.trans (hb8.block g hgl))
            have hlow : ∀ k, (k = g ∨ (Value.slice A' d.files.length c').ownBlock = some k) → w1.heap.size ≤ k := by
              rintro k (e | e)
              · rcases hgm with h | h
                · omega
                · have := (hbW1 g h).2
                  omega
              · exact (hbW1 _ (HVB.out _ e).1).2
            have HZ9w := Lib.hid ((hO9.block (w.heap.size + 2) (by omega) (fun e => by have := hlow _ e; omega)).trans HZ8.out)
            have hb9 := hb8w.trans (hO9.below (B := w.heap.size) (by omega) (fun k hk e => by have := hlow _ e; omega))
            have HTT : ∃ v3 bl2, HeldC w2.heap.size w1.heap.size (putP t q { d with files := insF d.files (nameF f n) }) v3 bl2 (w9.setCell ⟨g, o + 3, none⟩ (.slice A2' (d.files.length + 1) c2')) ∧ ∀ k ∈ bl2, k ∈ bl ∨ k ∈ bz ∨ W7.heap.size ≤ k := by
              obtain ⟨b1, b2, hbb, hLI⟩ := LT_ins i HL9.out HFN.out
              have hins : insF d.files (nameF f n) = d.files.take i ++ nameF f n :: d.files.drop i := by
                unfold insF
                rw [show foundB d.files (nameF f n).name = false from HFB.out, if_neg (by decide), show lowB d.files (nameF f n).name = i from HI9.out]
              rw [hins]
              refine HT9.out _ _ _ _ b1 [] b2 bz g2 hLI hbb hzn (fun k hk => ⟨?_, fun e => ?_, ?_⟩) (fun k hk h1 h2 => ?_) hgW ?_ hg2 hor2
              · have := (HBZ.out k hk).2
                omega
              · have h4 := (HBZ.out k hk).2
                have h6 := (hbW1 k e).1
                omega
              · have := (HBZ.out k hk).1
                omega
              · have hk7 : k < W7.heap.size := by
                  rcases hk with rfl | h | h
                  · exact htbl
                  · have := (hbW1 k h).1
                    omega
                  · have := (HBZ.out k h).1
                    omega
                exact (hO9.block k (by omega) (fun e => e.elim h1 h2)).trans (hb8.block k hk7)
              · have hlen : (d.files.take i ++ nameF f n :: d.files.drop i).length = d.files.length + 1 := by
                  rw [List.length_append, List.length_cons, List.length_take, List.length_drop]
                  omega
                rw [hlen]
                exact hrow9
            clear HINS y39 yf9 hrow9 hgW hO9 HOWN9 HON9 HOR9 HG9 HX9 hor2 hg2
            generalize w9.setCell ⟨g, o + 3, none⟩ (.slice A2' (d.files.length + 1) c2') = W9 at *
            obtain ⟨v3, bl2, hH9, hs9⟩ := HTT
            clear hs9
            have hub : (putP t q { d with files := insF d.files (nameF f n) }).bulk ≤ 4000000000 := by
              have h1 := bulk_putX (x := nameF f n) HGO.out
              have h2 := bulk_name f n
              omega
            have HG4 := Lib.hid HG3.out
            generalize putP t q { d with files := insF d.files (nameF f n) } = u at *
            obtain ⟨A9, c9, rfl, hat9⟩ := hH9.at
            have HH9 := Lib.hid hH9
            have HAT9 := Lib.hid hat9
            have r0 := hat9.c0
            have r1 := hat9.c1
            have r2 := hat9.c2
            have r3 := hat9.c3
            have HRT9 := Lib.hid (show Calls Tryd.prog 45 #[.agg #[.string u.name, .int .u8 u.kind, .string u.data, .slice A9 u.files.length c9]] W9 _ from right_calls u A9 c9 W9 (by omega) hat9.ch hat9.le)
            clear hH9 hat9 HT9 HO9 HL9 HVB HBS HFI HCP HCF HGC
            go_wp2_with fail
            refine HRT9.out.mono ?_
            rintro e w10 ⟨rfl, hb10'⟩
            have hs10 := hb10'.size
            have hb10 := bstep hb9 hb9.size hb10'
            have HZ10 := Lib.hid ((hb10'.block _ (blk_lt HZ9w.out)).trans HZ9w.out)
            have HH10 := Lib.hid (HH9.out.below hb10')
            clear r0 r1 r2 r3
            cases hru : rightT u
            · have HG : Hid (gr = (zeroF, 30)) := Lib.hid (by rw [HG4.out, if_neg (by rw [hru]; decide)])
              have HZ9 := Lib.hid (store4_box HZ10.out (.string ⟨#[]⟩) (.int .u8 0) (.string ⟨#[]⟩) (.slice none 0 0))
              have HB9 := Lib.hid (store4_below hb10 (g := w.heap.size + 2) (by omega) (.string ⟨#[]⟩) (.int .u8 0) (.string ⟨#[]⟩) (.slice none 0 0))
              have z0 := cell_of (j := 0) HZ10.out rfl
              have z1 := cell_of (j := 1) HZ10.out rfl
              have z2 := cell_of (j := 2) HZ10.out rfl
              have z3 := cell_of (j := 3) HZ10.out rfl
              have u0 := unfr HZ10.out 0
              have u1 := unfr HZ10.out 1
              have u2 := unfr HZ10.out 2
              have u3 := unfr HZ10.out 3
              go_wp2_with fail
              refine bodyPost_ret (results_ct rfl _ _ (w.heap.size + 2) 25 #[.string ⟨#[]⟩, .int .u8 0, .string ⟨#[]⟩, .slice none 0 0] (0, 0) _ rfl HZ9.out Tryd.underlying25 rfl (by kernel_rfl)) rfl ?_
              rw [HG.out]
              exact ⟨none, 0, rfl, Nat.le_refl _, fun _ _ => Kd.C_nil FileK _, HB9.out⟩
            · have HG : Hid (gr = (u, 0)) := Lib.hid (by rw [HG4.out, if_pos hru])
              obtain ⟨A0, c0, he0, hat0⟩ := HH10.out.at
              injection he0 with e1 _ e2
              subst e1
              subst e2
              have r0 := hat0.c0
              have r1 := hat0.c1
              have r2 := hat0.c2
              have r3 := hat0.c3
              have hle := hat0.le
              clear hat0
              have HZ9 := Lib.hid (store4_box HZ10.out (.string u.name) (.int .u8 u.kind) (.string u.data) (.slice A9 u.files.length c9))
              have HB9 := Lib.hid (store4_below hb10 (g := w.heap.size + 2) (by omega) (.string u.name) (.int .u8 u.kind) (.string u.data) (.slice A9 u.files.length c9))
              have z0 := cell_of (j := 0) HZ10.out rfl
              have z1 := cell_of (j := 1) HZ10.out rfl
              have z2 := cell_of (j := 2) HZ10.out rfl
              have z3 := cell_of (j := 3) HZ10.out rfl
              have u0 := unfr HZ10.out 0
              have u1 := unfr HZ10.out 1
              have u2 := unfr HZ10.out 2
              have u3 := unfr HZ10.out 3
              go_wp2_with fail
              refine bodyPost_ret (results_ct rfl _ _ (w.heap.size + 2) 25 #[.string u.name, .int .u8 u.kind, .string u.data, .slice A9 u.files.length c9] (0, 0) _ rfl HZ9.out Tryd.underlying25 rfl (by kernel_rfl)) rfl ?_
              rw [HG.out]
              have hsz9 : ((((w10.setCell ⟨w.heap.size + 2, 0, none⟩ (.string u.name)).setCell ⟨w.heap.size + 2, 1, none⟩ (.int .u8 u.kind)).setCell ⟨w.heap.size + 2, 2, none⟩ (.string u.data)).setCell ⟨w.heap.size + 2, 3, none⟩ (.slice A9 u.files.length c9)).heap.size = w10.heap.size := by simp [World.setCell]
              have hall : ∀ W' : World, (∀ k, w.heap.size ≤ k → k < ((((w10.setCell ⟨w.heap.size + 2, 0, none⟩ (.string u.name)).setCell ⟨w.heap.size + 2, 1, none⟩ (.int .u8 u.kind)).setCell ⟨w.heap.size + 2, 2, none⟩ (.string u.data)).setCell ⟨w.heap.size + 2, 3, none⟩ (.slice A9 u.files.length c9)).heap.size → W'.heap[k]? = ((((w10.setCell ⟨w.heap.size + 2, 0, none⟩ (.string u.name)).setCell ⟨w.heap.size + 2, 1, none⟩ (.int .u8 u.kind)).setCell ⟨w.heap.size + 2, 2, none⟩ (.string u.data)).setCell ⟨w.heap.size + 2, 3, none⟩ (.slice A9 u.files.length c9)).heap[k]?) → FileK.C W' A9 u.files.length u.files := by
                intro W' hW
                have hFT := FT_move _ _ _ W' _ _ HH10.out.ft fun k hk => by
                  have hk2 := FT_lt _ _ _ _ _ HH10.out.ft k hk
                  exact (hW k (by omega) (by omega)).trans (store4_other w10 (by omega) _ _ _ _)
                obtain ⟨A0, c0, he0, hle0, hC0⟩ := FT_reads _ _ _ _ _ hFT
                injection he0 with e1 _ e2
                subst e1
                subst e2
                exact hC0
              exact ⟨A9, c9, rfl, hle, hall, HB9.out⟩

          · obtain ⟨i, hi⟩ : ∃ i, lowB d.files n = i := ⟨_, rfl⟩
            have hil : i < d.files.length := by
              unfold foundB at hfb
              rw [hi] at hfb
              rcases Nat.lt_or_ge i d.files.length with h | h
              · exact h
              · rw [List.getElem?_eq_none h] at hfb
                cases hfb
            have HI9 := Lib.hid hi
            have HFB := Lib.hid hfb
            rw [hi]
            have ho8 : w8.drew.ownsRow w1.heap.size 25 4 (.slice A' d.files.length c') d.files.length inner := own_move HO9.out fun k hk => hb8.block k (own_lt HO9.out k hk)
            obtain ⟨gr', rfl⟩ : ∃ gr', A' = some ⟨gr', 0, none⟩ := by
              rcases ho8.2 with ⟨_, h0⟩ | ⟨gr', cap', cur, he, _⟩
              · omega
              · injection he with e1 _ _
                exact ⟨gr', e1⟩
            have hin : inner.length = d.files.length * 4 := ho8.1
            have hgr8 : ∃ cs, w8.drew.heap[gr']? = some (.cells cs 25 (0, 0)) := by
              rcases ho8.2 with ⟨_, h0⟩ | ⟨g', cap', cur, he, _, hh, _⟩
              · omega
              · injection he with e1 _ _
                injection e1 with e1
                injection e1 with e1 _ _
                subst e1
                exact ⟨_, hh⟩
            obtain ⟨rcs, hgr8⟩ := hgr8
            have hgrg : gr' ≠ g := fun e => (HVB.out gr' rfl).2.1 e
            have hce : ∀ j u, inner[j]? = some u → w8.drew.cell? ⟨gr', j, none⟩ = some u := fun j u hj => by
              have h := ho8.cells (g := gr') rfl j u hj
              rwa [add_at4] at h
            have e0 := hce (i * 4) _ (List.getElem?_eq_getElem (by omega))
            have e0' : w8.cell? ⟨gr', i * 4, none⟩ = _ := e0
            have e1 : w8.cell? ⟨gr', i * 4 + 1, none⟩ = _ := hce (i * 4 + 1) _ (List.getElem?_eq_getElem (by omega))
            have e2 : w8.cell? ⟨gr', i * 4 + 2, none⟩ = _ := hce (i * 4 + 2) _ (List.getElem?_eq_getElem (by omega))
            have e3 : w8.cell? ⟨gr', i * 4 + 3, none⟩ = _ := hce (i * 4 + 3) _ (List.getElem?_eq_getElem (by omega))
            generalize inner[i * 4] = u0 at e0 e0'
            generalize inner[i * 4 + 1] = u1 at e1
            generalize inner[i * 4 + 2] = u2 at e2
            generalize inner[i * 4 + 3] = u3 at e3
            have v0 := unfr hgr8 (i * 4)
            have v0' : w8.frozen? ⟨gr', i * 4, none⟩ = false := v0
            have v1 : w8.frozen? ⟨gr', i * 4 + 1, none⟩ = false := unfr hgr8 (i * 4 + 1)
            have v2 : w8.frozen? ⟨gr', i * 4 + 2, none⟩ = false := unfr hgr8 (i * 4 + 2)
            have v3 : w8.frozen? ⟨gr', i * 4 + 3, none⟩ = false := unfr hgr8 (i * 4 + 3)
            have gi : (i : Int) < (d.files.length : Int) := by omega
            have HO8 := Lib.hid ho8
            clear hi hfb ho8 hce
            go_wp2_with fail
            refine start_ (n := 8) (S := fun w' => w'.cell? ⟨g, o + 3, none⟩ = some (.slice (some ⟨gr', 0, none⟩) d.files.length c') ∧ w'.heap[w5.heap.size]? = some (.cells #[.string n, .int .u8 f.kind, .string f.data, .slice A3 f.files.length c3] 25 (0, 0))) (ds := [7]) (bp 8 0) (by kernel_rfl) rfl rfl ⟨y38, HXB8.out⟩ (fun hHeld => ?_)
            refine pure_ (i := 0) (N := some 63) (v := ?_) (a' := ?_) (bp 8 1) rfl rfl (by kernel_rfl) (fun _ _ _ h => h) (Or.inl ⟨by rfl, ?_⟩) ?_ ?_
            rotate_left
            · intro w'
              go_simp
              with_reducible rfl
            rotate_left
            · simp only [Act.put, List.setIfInBounds_toArray, List.set_cons_zero, List.set_cons_succ, i64_w, i32_w]
              rfl
            refine pure_ (i := 1) (N := some 64) (v := ?_) (a' := ?_) (bp 8 3) rfl rfl (by kernel_rfl) (fun _ _ _ h => h) (Or.inl ⟨by rfl, ?_⟩) ?_ ?_
            rotate_left
            · intro w'
              go_simp
              with_reducible rfl
            rotate_left
            · simp only [Act.put, List.setIfInBounds_toArray, List.set_cons_zero, List.set_cons_succ, i64_w, i32_w]
              rfl
            refine pure_ (i := 2) (N := some 65) (v := ?_) (a' := ?_) (bp 8 7) rfl rfl (by kernel_rfl) (fun _ _ _ h => h) (Or.inl ⟨by rfl, ?_⟩) ?_ ?_
            rotate_left
            · intro w'
              go_simp
              with_reducible rfl
            rotate_left
            · simp only [Act.put, List.setIfInBounds_toArray, List.set_cons_zero, List.set_cons_succ, i64_w, i32_w]
              rfl
            refine pure_ (i := 4) (N := some 67) (v := ?_) (a' := ?_) (bp 8 23) rfl rfl (by kernel_rfl) (fun _ _ _ h => h) (Or.inl ⟨by rfl, ?_⟩) ?_ ?_
            rotate_left
            · intro w'
              go_simp
              with_reducible rfl
            rotate_left
            · simp only [Act.put, List.setIfInBounds_toArray, List.set_cons_zero, List.set_cons_succ, i64_w, i32_w]
              rfl
            refine take_ (i := 3) (N := some 66) (v := ?_) (a' := ?_) (bp 8 31) rfl rfl (by kernel_rfl) (fun _ _ _ h => h) (Or.inl ⟨by rfl, ?_⟩) hHeld ?_ ?_
            rotate_left
            · rintro w' ⟨s0, s1⟩
              go_simp
              with_reducible rfl
            rotate_left
            · simp only [Act.put, List.setIfInBounds_toArray, List.set_cons_zero, List.set_cons_succ, i64_w, i32_w]
              rfl
            refine take_ (i := 5) (N := some 68) (v := ?_) (a' := ?_) (bp 8 63) rfl rfl (by kernel_rfl) (fun _ _ _ h => h) (Or.inl ⟨by rfl, ?_⟩) hHeld ?_ ?_
            rotate_left
            · rintro w' ⟨s0, s1⟩
              have q0 := cell_of (j := 0) s1 rfl
              have q1 := cell_of (j := 1) s1 rfl
              have q2 := cell_of (j := 2) s1 rfl
              have q3 := cell_of (j := 3) s1 rfl
              go_simp
              with_reducible rfl
            rotate_left
            · simp only [Act.put, List.setIfInBounds_toArray, List.set_cons_zero, List.set_cons_succ, i64_w, i32_w]
              rfl
            refine pure_ (i := 6) (N := some 69) (v := ?_) (a' := ?_) (bp 8 127) rfl rfl (by kernel_rfl) (fun _ _ _ h => h) (Or.inl ⟨by rfl, ?_⟩) ?_ ?_
            rotate_left
            · intro w'
              go_simp
              with_reducible rfl
            rotate_left
            · simp only [Act.put, List.setIfInBounds_toArray, List.set_cons_zero, List.set_cons_succ, i64_w, i32_w]
              rfl
            refine last_ (i := 7) (N := none) (bp 8 255) rfl rfl (by kernel_rfl) (by decide) (fun K hK => ?_)
            refine skip_ (w1 := ?_) (by rfl) rfl ?_ ?_
            rotate_left
            · go_simp
              rfl
            refine hK.out _ _ ?_
            refine done_ (by kernel_rfl) ?_

            have s1 := own_set (w' := w8.setCell ⟨gr', i * 4, none⟩ (.string n)) HO8.out rfl (j := i * 4) (by omega) rfl
            have s2 := own_set (w' := (w8.setCell ⟨gr', i * 4, none⟩ (.string n)).setCell ⟨gr', i * 4 + 1, none⟩ (.int .u8 f.kind)) s1 rfl (j := i * 4 + 1) (by rw [List.length_set]; omega) rfl
            have s3 := own_set (w' := ((w8.setCell ⟨gr', i * 4, none⟩ (.string n)).setCell ⟨gr', i * 4 + 1, none⟩ (.int .u8 f.kind)).setCell ⟨gr', i * 4 + 2, none⟩ (.string f.data)) s2 rfl (j := i * 4 + 2) (by rw [List.length_set, List.length_set]; omega) rfl
            have s4 := own_set (w' := (((w8.setCell ⟨gr', i * 4, none⟩ (.string n)).setCell ⟨gr', i * 4 + 1, none⟩ (.int .u8 f.kind)).setCell ⟨gr', i * 4 + 2, none⟩ (.string f.data)).setCell ⟨gr', i * 4 + 3, none⟩ (.slice A3 f.files.length c3)) s3 rfl (j := i * 4 + 3) (by rw [List.length_set, List.length_set, List.length_set]; omega) rfl
            rw [set4_mid i inner _ _ _ _ (by omega)] at s4
            have s4 : (((((w8.setCell ⟨gr', i * 4, none⟩ (.string n)).setCell ⟨gr', i * 4 + 1, none⟩ (.int .u8 f.kind)).setCell ⟨gr', i * 4 + 2, none⟩ (.string f.data)).setCell ⟨gr', i * 4 + 3, none⟩ (.slice A3 f.files.length c3)).drew).ownsRow _ _ _ _ _ _ := s4
            have hO9 : ∀ k, k ≠ gr' → (((((w8.setCell ⟨gr', i * 4, none⟩ (.string n)).setCell ⟨gr', i * 4 + 1, none⟩ (.int .u8 f.kind)).setCell ⟨gr', i * 4 + 2, none⟩ (.string f.data)).setCell ⟨gr', i * 4 + 3, none⟩ (.slice A3 f.files.length c3)).drew).heap[k]? = w8.heap[k]? := fun k hk =>
              (Below.heap_setCell _ _ _ _ hk).trans ((Below.heap_setCell _ _ _ _ hk).trans ((Below.heap_setCell _ _ _ _ hk).trans (Below.heap_setCell _ _ _ _ hk)))
            have hgrB : w1.heap.size ≤ gr' := (hbW1 gr' (HVB.out gr' rfl).1).2
            have hb9 := (((hb8w.setCell (p := ⟨gr', i * 4, none⟩) (by simp only; omega) (.string n)).setCell (p := ⟨gr', i * 4 + 1, none⟩) (by simp only; omega) (.int .u8 f.kind)).setCell (p := ⟨gr', i * 4 + 2, none⟩) (by simp only; omega) (.string f.data)).setCell (p := ⟨gr', i * 4 + 3, none⟩) (by simp only; omega) (.slice A3 f.files.length c3)
            have hb9 := bdrew hb9
            have HZ9w := Lib.hid ((hO9 (w.heap.size + 2) (by omega)).trans HZ8.out)
            have HTT : ∃ v3 bl2, HeldC w2.heap.size w1.heap.size (putP t q { d with files := insF d.files (nameF f n) }) v3 bl2 (((((w8.setCell ⟨gr', i * 4, none⟩ (.string n)).setCell ⟨gr', i * 4 + 1, none⟩ (.int .u8 f.kind)).setCell ⟨gr', i * 4 + 2, none⟩ (.string f.data)).setCell ⟨gr', i * 4 + 3, none⟩ (.slice A3 f.files.length c3)).drew) ∧ ∀ k ∈ bl2, k ∈ bl ∨ k ∈ bz ∨ W7.heap.size ≤ k := by
              obtain ⟨b1, b2, b3, hbb, hLI⟩ := LT_set i HL9.out HFN.out
              have hins : insF d.files (nameF f n) = d.files.take i ++ nameF f n :: d.files.drop (i + 1) := by
                unfold insF
                rw [show foundB d.files (nameF f n).name = true from HFB.out, if_pos rfl, show lowB d.files (nameF f n).name = i from HI9.out]
              rw [hins]
              refine HT9.out _ (.slice (some ⟨gr', 0, none⟩) d.files.length c') _ _ b1 b2 b3 bz gr' hLI hbb hzn (fun k hk => ⟨?_, fun e => ?_, ?_⟩) (fun k hk h1 h2 => ?_) ?_ ?_ rfl (.inl rfl)
              · have := (HBZ.out k hk).2
                omega
              · have h4 := (HBZ.out k hk).2
                have h6 := (hbW1 k e).1
                omega
              · have := (HBZ.out k hk).1
                omega
              · have hk7 : k < W7.heap.size := by
                  rcases hk with rfl | h | h
                  · exact htbl
                  · have := (hbW1 k h).1
                    omega
                  · have := (HBZ.out k h).1
                    omega
                exact (hO9 k (fun e => h2 (by rw [e]; rfl))).trans (hb8.block k hk7)
              · rw [setCell_id Y3.out]
                exact (hO9 g (Ne.symm hgrg)).trans (hb8.block g hgl)
              · have hlen : (d.files.take i ++ nameF f n :: d.files.drop (i + 1)).length = d.files.length := by
                  rw [List.length_append, List.length_cons, List.length_take, List.length_drop]
                  omega
                rw [hlen]
                exact s4
            clear s1 s2 s3 s4 hO9 e0 e1 e2 e3 v0 v1 v2 v3 e0' v0'
            generalize (((((w8.setCell ⟨gr', i * 4, none⟩ (.string n)).setCell ⟨gr', i * 4 + 1, none⟩ (.int .u8 f.kind)).setCell ⟨gr', i * 4 + 2, none⟩ (.string f.data)).setCell ⟨gr', i * 4 + 3, none⟩ (.slice A3 f.files.length c3)).drew) = W9 at *
            obtain ⟨v3, bl2, hH9, hs9⟩ := HTT
            clear hs9
            have hub : (putP t q { d with files := insF d.files (nameF f n) }).bulk ≤ 4000000000 := by
              have h1 := bulk_putX (x := nameF f n) HGO.out
              have h2 := bulk_name f n
              omega
            have HG4 := Lib.hid HG3.out
            generalize putP t q { d with files := insF d.files (nameF f n) } = u at *
            obtain ⟨A9, c9, rfl, hat9⟩ := hH9.at
            have HH9 := Lib.hid hH9
            have HAT9 := Lib.hid hat9
            have r0 := hat9.c0
            have r1 := hat9.c1
            have r2 := hat9.c2
            have r3 := hat9.c3
            have HRT9 := Lib.hid (show Calls Tryd.prog 45 #[.agg #[.string u.name, .int .u8 u.kind, .string u.data, .slice A9 u.files.length c9]] W9 _ from right_calls u A9 c9 W9 (by omega) hat9.ch hat9.le)
            clear hH9 hat9 HT9 HO9 HL9 HVB HBS HFI HCP HCF HGC
            go_wp2_with fail
            refine HRT9.out.mono ?_
            rintro e w10 ⟨rfl, hb10'⟩
            have hs10 := hb10'.size
            have hb10 := bstep hb9 hb9.size hb10'
            have HZ10 := Lib.hid ((hb10'.block _ (blk_lt HZ9w.out)).trans HZ9w.out)
            have HH10 := Lib.hid (HH9.out.below hb10')
            clear r0 r1 r2 r3
            cases hru : rightT u
            · have HG : Hid (gr = (zeroF, 30)) := Lib.hid (by rw [HG4.out, if_neg (by rw [hru]; decide)])
              have HZ9 := Lib.hid (store4_box HZ10.out (.string ⟨#[]⟩) (.int .u8 0) (.string ⟨#[]⟩) (.slice none 0 0))
              have HB9 := Lib.hid (store4_below hb10 (g := w.heap.size + 2) (by omega) (.string ⟨#[]⟩) (.int .u8 0) (.string ⟨#[]⟩) (.slice none 0 0))
              have z0 := cell_of (j := 0) HZ10.out rfl
              have z1 := cell_of (j := 1) HZ10.out rfl
              have z2 := cell_of (j := 2) HZ10.out rfl
              have z3 := cell_of (j := 3) HZ10.out rfl
              have u0 := unfr HZ10.out 0
              have u1 := unfr HZ10.out 1
              have u2 := unfr HZ10.out 2
              have u3 := unfr HZ10.out 3
              go_wp2_with fail
              refine bodyPost_ret (results_ct rfl _ _ (w.heap.size + 2) 25 #[.string ⟨#[]⟩, .int .u8 0, .string ⟨#[]⟩, .slice none 0 0] (0, 0) _ rfl HZ9.out Tryd.underlying25 rfl (by kernel_rfl)) rfl ?_
              rw [HG.out]
              exact ⟨none, 0, rfl, Nat.le_refl _, fun _ _ => Kd.C_nil FileK _, HB9.out⟩
            · have HG : Hid (gr = (u, 0)) := Lib.hid (by rw [HG4.out, if_pos hru])
              obtain ⟨A0, c0, he0, hat0⟩ := HH10.out.at
              injection he0 with e1 _ e2
              subst e1
              subst e2
              have r0 := hat0.c0
              have r1 := hat0.c1
              have r2 := hat0.c2
              have r3 := hat0.c3
              have hle := hat0.le
              clear hat0
              have HZ9 := Lib.hid (store4_box HZ10.out (.string u.name) (.int .u8 u.kind) (.string u.data) (.slice A9 u.files.length c9))
              have HB9 := Lib.hid (store4_below hb10 (g := w.heap.size + 2) (by omega) (.string u.name) (.int .u8 u.kind) (.string u.data) (.slice A9 u.files.length c9))
              have z0 := cell_of (j := 0) HZ10.out rfl
              have z1 := cell_of (j := 1) HZ10.out rfl
              have z2 := cell_of (j := 2) HZ10.out rfl
              have z3 := cell_of (j := 3) HZ10.out rfl
              have u0 := unfr HZ10.out 0
              have u1 := unfr HZ10.out 1
              have u2 := unfr HZ10.out 2
              have u3 := unfr HZ10.out 3
              go_wp2_with fail
              refine bodyPost_ret (results_ct rfl _ _ (w.heap.size + 2) 25 #[.string u.name, .int .u8 u.kind, .string u.data, .slice A9 u.files.length c9] (0, 0) _ rfl HZ9.out Tryd.underlying25 rfl (by kernel_rfl)) rfl ?_
              rw [HG.out]
              have hsz9 : ((((w10.setCell ⟨w.heap.size + 2, 0, none⟩ (.string u.name)).setCell ⟨w.heap.size + 2, 1, none⟩ (.int .u8 u.kind)).setCell ⟨w.heap.size + 2, 2, none⟩ (.string u.data)).setCell ⟨w.heap.size + 2, 3, none⟩ (.slice A9 u.files.length c9)).heap.size = w10.heap.size := by simp [World.setCell]
              have hall : ∀ W' : World, (∀ k, w.heap.size ≤ k → k < ((((w10.setCell ⟨w.heap.size + 2, 0, none⟩ (.string u.name)).setCell ⟨w.heap.size + 2, 1, none⟩ (.int .u8 u.kind)).setCell ⟨w.heap.size + 2, 2, none⟩ (.string u.data)).setCell ⟨w.heap.size + 2, 3, none⟩ (.slice A9 u.files.length c9)).heap.size → W'.heap[k]? = ((((w10.setCell ⟨w.heap.size + 2, 0, none⟩ (.string u.name)).setCell ⟨w.heap.size + 2, 1, none⟩ (.int .u8 u.kind)).setCell ⟨w.heap.size + 2, 2, none⟩ (.string u.data)).setCell ⟨w.heap.size + 2, 3, none⟩ (.slice A9 u.files.length c9)).heap[k]?) → FileK.C W' A9 u.files.length u.files := by
                intro W' hW
                have hFT := FT_move _ _ _ W' _ _ HH10.out.ft fun k hk => by
                  have hk2 := FT_lt _ _ _ _ _ HH10.out.ft k hk
                  exact (hW k (by omega) (by omega)).trans (store4_other w10 (by omega) _ _ _ _)
                obtain ⟨A0, c0, he0, hle0, hC0⟩ := FT_reads _ _ _ _ _ hFT
                injection he0 with e1 _ e2
                subst e1
                subst e2
                exact hC0
              exact ⟨A9, c9, rfl, hle, hall, HB9.out⟩
end Go.Proofs.YthlcjjhfkldmhaaDoor.G
