/- trees.Drop. Printed by wip/tools/gen_drop.py. -/
import Derived.Test.YthlcjjhfkldmhaaDoorTReadA
import Derived.Test.YthlcjjhfkldmhaaDoorTTurn
set_option linter.unusedVariables false
set_option linter.unusedSimpArgs false
section
namespace Go.Proofs.YthlcjjhfkldmhaaDoor.G
open Go.RowKit Go.Lib Go.Proofs.YthlcjjhfkldmhaaDoorW.PrintWords Go.Proofs.YthlcjjhfkldmhaaDoorW.PrintLast
set_option linter.unusedVariables false

theorem low_name {l l' : List File} (n : ByteArray) (h : l.map File.name = l'.map File.name) : lowB l n = lowB l' n := by
  have hh : ∀ l : List File, lowB l n = ((l.map File.name).takeWhile fun x => lessB x n).length := by
    intro l
    unfold lowB
    induction l with
    | nil => rfl
    | cons x l ih =>
      simp only [List.map_cons, List.takeWhile_cons]
      split
      · simp only [List.length_cons, ih]
      · rfl
  rw [hh, hh, h]
theorem set_names {l : List File} {i : Nat} {x x' : File} (hx : l[i]? = some x) (hn : x'.name = x.name) : (l.set i x').map File.name = l.map File.name := by
  apply List.ext_getElem?
  intro j
  rw [List.getElem?_map, List.getElem?_map, List.getElem?_set]
  split
  · rename_i h
    subst h
    rw [if_pos (List.getElem?_eq_some_iff.1 hx).1, hx]
    simp [hn]
  · rfl
theorem goP_full {f : File} {n : ByteArray} {q : List ByteArray} {d : File} {k : Int} (h : goP f (n :: q) = (k, some d)) : ∃ x, f.kind = 1 ∧ f.files[lowB f.files n]? = some x ∧ x.name = n ∧ goP x q = (k, some d) := by
  rw [goP] at h
  split at h
  · rename_i hk
    split at h
    · rename_i x hx
      split at h
      · rename_i he
        exact ⟨x, hk, hx, toList_inj.1 (eq_of_beq he), h⟩
      · cases h
    · cases h
  · cases h
theorem goP_mk {f : File} {n : ByteArray} {q : List ByteArray} {x : File} (hk : f.kind = 1) (hx : f.files[lowB f.files n]? = some x) (hn : x.name = n) : goP f (n :: q) = goP x q := by
  rw [goP, if_pos hk, hx]
  simp only
  rw [if_pos (by rw [hn]; simp)]
theorem goP_zero : ∀ (q : List ByteArray) (f d : File) (k : Int), goP f q = (k, some d) → k = 0
  | [], f, d, k, h => by rw [goP] at h; injection h with h _; exact h.symm
  | n :: q, f, d, k, h => by
    obtain ⟨x, _, _, _, hg⟩ := goP_full h
    exact goP_zero q x d k hg
theorem go_put : ∀ (q : List ByteArray) (f y d : File), goP f q = (0, some d) → y.name = d.name → goP (putP f q y) q = (0, some y)
  | [], f, y, d, h, hn => by rw [putP, goP]
  | n :: q, f, y, d, h, hn => by
    obtain ⟨x, hk, hx, hxn, hg⟩ := goP_full h
    have ih := go_put q x y d hg hn
    have hpn := putP_name q x y d 0 hg hn
    have hl : lowB (f.files.set (lowB f.files n) (putP x q y)) n = lowB f.files n := low_name n (set_names hx hpn)
    have hlt := (List.getElem?_eq_some_iff.1 hx).1
    rw [putP, hx]
    show goP { f with files := f.files.set (lowB f.files n) (putP x q y) } (n :: q) = _
    exact (goP_mk (f := { f with files := f.files.set (lowB f.files n) (putP x q y) }) (x := putP x q y) hk (by show (f.files.set (lowB f.files n) (putP x q y))[lowB (f.files.set (lowB f.files n) (putP x q y)) n]? = _; rw [hl, List.getElem?_set_self hlt]) (hpn.trans hxn)).trans ih
end Go.Proofs.YthlcjjhfkldmhaaDoor.G
end
section
namespace Go.Proofs.YthlcjjhfkldmhaaDoor.G
open Go.RowKit Go.Lib Go.Proofs.YthlcjjhfkldmhaaDoorW.PrintWords Go.Proofs.YthlcjjhfkldmhaaDoorW.PrintLast
set_option linter.unusedVariables false
set_option linter.unusedSimpArgs false

theorem cell_eqv {W W' : World} {g : Nat} (h : W.heap[g]? = W'.heap[g]?) (j : Nat) : W.cell? ⟨g, j, none⟩ = W'.cell? ⟨g, j, none⟩ := by simp [World.cell?, h]
theorem Reach_mv {w w' : World} (hb : Below w.heap.size w w') : ∀ {p : List ByteArray} {ad : Addr} {f : File} {ad' : Addr} {y : File}, Reach w ad f p ad' y → Reach w' ad f p ad' y
  | [], _, _, _, _, h => h
  | n :: p, ad, f, ad', y, ⟨b, c, x, h1, h2, h3⟩ => ⟨b, c, x, (hb.cell (World.block_lt_of_cell? w _ h1)).trans h1, h2, Reach_mv hb h3⟩
theorem go_split {n : ByteArray} {y : File} {k : Int} : ∀ {q : List ByteArray} {f : File}, goP f (q ++ [n]) = (k, some y) → ∃ d, goP f q = (0, some d) ∧ d.kind = 1 ∧ d.files[lowB d.files n]? = some y ∧ y.name = n
  | [], f, h => by
    obtain ⟨x, hk, hx, hn, hg⟩ := goP_full h
    rw [goP] at hg
    injection hg with _ hg
    injection hg with hg
    subst hg
    exact ⟨f, rfl, hk, hx, hn⟩
  | m :: q, f, h => by
    obtain ⟨x, hk, hx, hn, hg⟩ := goP_full h
    obtain ⟨d, h1, h2⟩ := go_split hg
    exact ⟨d, by rw [goP_mk hk hx hn, h1], h2⟩

set_option maxHeartbeats 8000000 in
set_option maxRecDepth 100000 in
theorem drop_calls (t : File) (A : Option Addr) (c : Nat) (Ap : Option Addr) (cp : Nat) (q : List ByteArray) (n : ByteArray) (w : World) (hr : FileK.C w A t.files.length t.files) (hc : t.files.length ≤ c) (hbt : t.bulk ≤ 1000000000) (hp : Kd.C Kd.string w Ap (q ++ [n]).length (q ++ [n])) (hcp : q.length + 1 ≤ cp) (hpl : q.length ≤ 1000000000) :
    Calls Tryd.prog 86 #[fileV t A c, .slice Ap (q.length + 1) cp] w fun e w' => ∃ A' c', e = .returned (.tuple #[.agg #[.string (dropR t q n).1.name, .int .u8 (dropR t q n).1.kind, .string (dropR t q n).1.data, .slice A' (dropR t q n).1.files.length c'], .int .i64 (dropR t q n).2]) ∧ (dropR t q n).1.files.length ≤ c' ∧ (∀ W' : World, (∀ k, w.heap.size ≤ k → k < w'.heap.size → W'.heap[k]? = w'.heap[k]?) → FileK.C W' A' (dropR t q n).1.files.length (dropR t q n).1.files) ∧ Below w.heap.size w w' := by
  have h2 := two_boxes w #[.string t.name, .int .u8 t.kind, .string t.data, .slice A t.files.length c] #[.string ⟨#[]⟩, .int .u8 0, .string ⟨#[]⟩, .slice none 0 0] 25 25
  have hb0 := ((Below.refl w.heap.size w).alloc (Nat.le_refl _) (.cells #[.string t.name, .int .u8 t.kind, .string t.data, .slice A t.files.length c] 25)).alloc (by simp) (.cells #[.string ⟨#[]⟩, .int .u8 0, .string ⟨#[]⟩, .slice none 0 0] 25)
  have HP := Lib.hid hp
  have HGR : Hid (dropR t q n = if rightT t = true then (match goP t (q ++ [n]) with
      | (_, some _) => (match goP t q with
        | (_, some d) => (putP t q { d with files := delF d.files n }, 0)
        | (k, none) => (zeroF, k))
      | (k, none) => (zeroF, k)) else (zeroF, 30)) := Lib.hid rfl
  generalize dropR t q n = gr at *
  have HRT := Lib.hid (fun W (h : Below w.heap.size w W) => (show Calls Tryd.prog 45 #[.agg #[.string t.name, .int .u8 t.kind, .string t.data, .slice A t.files.length c]] W _ from right_calls t A c W (by omega) (Kd.C_below hr h) hc))
  have HCP := Lib.hid (fun W (h : Below w.heap.size w W) => (show Calls Tryd.prog 42 #[.agg #[.string t.name, .int .u8 t.kind, .string t.data, .slice A t.files.length c]] W _ from copy_apart t.bulk t A c W (Nat.le_refl _) (by omega) (Kd.C_below hr h) hc))
  have HQ := Lib.hid (show Kd.C Kd.string w Ap q.length q from by
    have h1 := Kd.C_take hp (m := q.length) (by simp)
    rwa [List.take_left' rfl] at h1)
  have hqn : (q ++ [n]).length = q.length + 1 := by simp
  have HGC := Lib.hid (fun W ad A' c' (h : Below w.heap.size w W) h1 h2 => get_calls t ad A' c' Ap cp q W h1 (by omega) h2 (Kd.C_below HQ.out h) (by omega) (by omega))
  have HGN := Lib.hid (fun W ad A' c' (h : Below w.heap.size w W) h1 h2 => (show Calls Tryd.prog 46 #[.pointer (some ad), .slice Ap (q.length + 1) cp] W _ from by rw [← hqn]; exact get_calls t ad A' c' Ap cp (q ++ [n]) W h1 (by omega) h2 (Kd.C_below HP.out h) (by omega) (by omega)))
  have H1 := Lib.hid h2.1
  have H3 := Lib.hid h2.2
  have t0 := cell_of (j := 0) h2.1 rfl
  have t1 := cell_of (j := 1) h2.1 rfl
  have t2 := cell_of (j := 2) h2.1 rfl
  have t3 := cell_of (j := 3) h2.1 rfl
  have hk1 : ((q.length : Int) + 1 - 1) = (q.length : Int) := by omega
  clear hp hr h2 hqn
  go_enter Tryd.func86, Tryd.ntmps86
  unfold fileV
  go_wp2_with fail
  generalize (w.alloc (.cells #[.string t.name, .int .u8 t.kind, .string t.data, .slice A t.files.length c] 25)).alloc (.cells #[.string ⟨#[]⟩, .int .u8 0, .string ⟨#[]⟩, .slice none 0 0] 25) = W0 at *
  have hz0 := blk_lt H3.out
  refine (HRT.out _ hb0).mono ?_
  rintro e w1 ⟨rfl, hb1'⟩
  have hs1 := hb1'.size
  have hb1 := bstep hb0 hb0.size hb1'
  have H11 := Lib.hid ((hb1'.block _ (blk_lt H1.out)).trans H1.out)
  have HZ1 := Lib.hid ((hb1'.block _ (blk_lt H3.out)).trans H3.out)
  clear t0 t1 t2 t3
  cases hrt : rightT t
  · have HG : Hid (gr = (zeroF, 30)) := Lib.hid (by rw [HGR.out, if_neg (by rw [hrt]; decide)])
    have HZF := Lib.hid (store4_box HZ1.out (.string ⟨#[]⟩) (.int .u8 0) (.string ⟨#[]⟩) (.slice none 0 0))
    have HB9 := Lib.hid (store4_below hb1 (g := w.heap.size + 1) (by omega) (.string ⟨#[]⟩) (.int .u8 0) (.string ⟨#[]⟩) (.slice none 0 0))
    have z0 := cell_of (j := 0) HZ1.out rfl
    have z1 := cell_of (j := 1) HZ1.out rfl
    have z2 := cell_of (j := 2) HZ1.out rfl
    have z3 := cell_of (j := 3) HZ1.out rfl
    have u0 := unfr HZ1.out 0
    have u1 := unfr HZ1.out 1
    have u2 := unfr HZ1.out 2
    have u3 := unfr HZ1.out 3
    go_wp2_with fail
    refine bodyPost_ret (results_ct rfl _ _ (w.heap.size + 1) 25 #[.string ⟨#[]⟩, .int .u8 0, .string ⟨#[]⟩, .slice none 0 0] (0, 0) _ rfl HZF.out Tryd.underlying25 rfl (by kernel_rfl)) rfl ?_
    rw [HG.out]
    exact ⟨none, 0, rfl, Nat.le_refl _, fun _ _ => Kd.C_nil FileK _, HB9.out⟩

  · have HG1 := HGR.out
    rw [if_pos hrt] at HG1
    have HG2 := Lib.hid HG1
    have HS := Lib.hid (right_sort hrt)
    clear HG1
    have t0 := cell_of (j := 0) H11.out rfl
    have t1 := cell_of (j := 1) H11.out rfl
    have t2 := cell_of (j := 2) H11.out rfl
    have t3 := cell_of (j := 3) H11.out rfl
    go_wp2_with fail
    refine (HCP.out _ hb1).mono ?_
    rintro e w2 ⟨v, bl, rfl, hft, hnd, hb2'⟩
    have hs2 := hb2'.size
    have hb2 := bstep hb1 hb1.size hb2'
    have HZ2 := Lib.hid ((hb2'.block _ (blk_lt HZ1.out)).trans HZ1.out)
    have hz1 := blk_lt HZ1.out
    clear t0 t1 t2 t3
    obtain ⟨A1, c1, rfl, hc1, hC1⟩ := FT_reads _ _ _ _ _ hft
    have hba : Below w2.heap.size w2 (w2.alloc (.cells #[.string t.name, .int .u8 t.kind, .string t.data, .slice A1 t.files.length c1] 25)) := below_alloc (Below.refl _ _) _
    have HH3 : Hid (HeldC w2.heap.size w1.heap.size t (.slice A1 t.files.length c1) bl (w2.alloc (.cells #[.string t.name, .int .u8 t.kind, .string t.data, .slice A1 t.files.length c1] 25))) := Lib.hid ⟨blk_new w2 _, FT_below hft hba, hnd, fun k hk e => by have := (FT_lt _ _ _ _ _ hft k hk).1; omega⟩
    have hb3 := bstep hb2 hb2.size hba
    have HZ3 := Lib.hid ((hba.block _ (blk_lt HZ2.out)).trans HZ2.out)
    have HBL2 := Lib.hid (FT_lt _ _ _ _ _ hft)
    clear hft hnd hC1 hba
    go_wp2_with fail
    generalize w2.alloc (.cells #[.string t.name, .int .u8 t.kind, .string t.data, .slice A1 t.files.length c1] 25) = W3 at *
    have hz3 := blk_lt HH3.out.box
    obtain ⟨A2, c2, he2, hat2⟩ := HH3.out.at
    injection he2 with e1 _ e2
    subst e1
    subst e2
    refine (HGN.out W3 _ _ _ hb3 hat2 HS.out).mono ?_
    clear hat2
    rintro e w4 ⟨hb4', ⟨ad0, y, A0, c0, hgo, rfl, _, _, _, _⟩ | ⟨k, hk0, hgo, rfl⟩⟩
    rotate_left
    · have HG : Hid (gr = (zeroF, k)) := Lib.hid (by rw [HG2.out, hgo])
      have k1 : (k != 0) = true := by rw [bne_iff_ne]; exact hk0
      have hs4 := hb4'.size
      have hb4 := bstep hb3 hb3.size hb4'
      have HZ4 := Lib.hid ((hb4'.block _ (blk_lt HZ3.out)).trans HZ3.out)
      clear hgo
      have HZF := Lib.hid (store4_box HZ4.out (.string ⟨#[]⟩) (.int .u8 0) (.string ⟨#[]⟩) (.slice none 0 0))
      have HB9 := Lib.hid (store4_below hb4 (g := w.heap.size + 1) (by omega) (.string ⟨#[]⟩) (.int .u8 0) (.string ⟨#[]⟩) (.slice none 0 0))
      have z0 := cell_of (j := 0) HZ4.out rfl
      have z1 := cell_of (j := 1) HZ4.out rfl
      have z2 := cell_of (j := 2) HZ4.out rfl
      have z3 := cell_of (j := 3) HZ4.out rfl
      have u0 := unfr HZ4.out 0
      have u1 := unfr HZ4.out 1
      have u2 := unfr HZ4.out 2
      have u3 := unfr HZ4.out 3
      go_wp2_with fail
      refine bodyPost_ret (results_ct rfl _ _ (w.heap.size + 1) 25 #[.string ⟨#[]⟩, .int .u8 0, .string ⟨#[]⟩, .slice none 0 0] (0, 0) _ rfl HZF.out Tryd.underlying25 rfl (by kernel_rfl)) rfl ?_
      rw [HG.out]
      exact ⟨none, 0, rfl, Nat.le_refl _, fun _ _ => Kd.C_nil FileK _, HB9.out⟩

    · have hg2 := HG2.out
      rw [hgo] at hg2
      simp only at hg2
      obtain ⟨d0, hgq, hdk, hdx, hyn⟩ := go_split hgo
      rw [hgq] at hg2
      simp only at hg2
      have HG4 := Lib.hid hg2
      have hs4 := hb4'.size
      have hb4 := bstep hb3 hb3.size hb4'
      have HZ4 := Lib.hid ((hb4'.block _ (blk_lt HZ3.out)).trans HZ3.out)
      have HH4 := Lib.hid (HH3.out.below hb4')
      have HGQ := Lib.hid hgq
      have HDX := Lib.hid hdx
      have HYN := Lib.hid hyn
      clear hgo hg2 hgq hdx hyn hdk
      go_wp2_with fail
      obtain ⟨A2', c2', he2, hat2⟩ := HH4.out.at
      injection he2 with e1 _ e2
      subst e1
      subst e2
      refine (HGC.out w4 _ _ _ hb4 hat2 HS.out).mono ?_
      clear hat2
      rintro e w7 ⟨hb7', ⟨ad', d, A', c', hgo, rfl, hat, hre, hdb, hds⟩ | ⟨k, hk0, hgo, rfl⟩⟩
      rotate_left
      · have h0 := HGQ.out
        rw [hgo] at h0
        injection h0 with _ h0
        cases h0
      · obtain rfl : d0 = d := by
          have h0 := HGQ.out
          rw [hgo] at h0
          injection h0 with _ h0
          injection h0 with h0
          exact h0.symm
        have hs7 := hb7'.size
        have hb7 := bstep hb4 hb4.size hb7'
        have HZ7 := Lib.hid ((hb7'.block _ (blk_lt HZ4.out)).trans HZ4.out)
        have HH7 := Lib.hid (HH4.out.below hb7')
        have y3 := (hb7'.cell (World.block_lt_of_cell? _ _ hat.c3)).trans hat.c3
        have HRE7 := Lib.hid (Reach_mv hb7' hre)
        have HCH := Lib.hid (Kd.C_below hat.ch hb7')
        have hle := hat.le
        clear hat hre hgo
        obtain ⟨g, o, v', inner, bs, rfl, hc', ⟨gcs, hgc⟩, hgm, ho, hL, hN, hbs, hvb, hT⟩ := turnC HH7.out HRE7.out
        obtain rfl : v' = .slice A' d0.files.length c' := by
          rw [y3] at hc'
          injection hc' with hc'
          exact hc'.symm
        have y3d : w7.drew.cell? ⟨g, o + 3, none⟩ = some (.slice A' d0.files.length c') := y3
        obtain ⟨pad, rfl, hx⟩ := Kd.at_string HP.out (q.length : Int) (by omega) (by simp; omega)
        rw [Int.toNat_natCast] at hx
        have he : rdOf ByteArray.empty (q ++ [n]) (q.length : Int) = n := by simp [rdOf]
        rw [he] at hx
        clear he
        have x7 := (hb7.cell (World.block_lt_of_cell? w _ hx)).trans hx
        have x7d : w7.drew.cell? (pad.add q.length) = some (.string n) := x7
        have hss := hds
        rw [SortF_eq] at hss
        have hdl := bulkL_len d0.files
        have hde := bulk_eq d0
        have HFI := Lib.hid (fun W (h : Below w7.heap.size w7 W) => find_calls A' c' d0.files n W (Kd.C_below HCH.out h) hle (by omega) hss.1)
        have HT9 := Lib.hid hT
        have HO9 := Lib.hid ho
        have HL9 := Lib.hid hL
        have HVB := Lib.hid hvb
        have hdl2 : d0.files.length ≤ 1000000000 := by omega
        have wq : IntKind.i64.wrap (q.length : Int) = (q.length : Int) := by rw [IntKind.wrap_i64]; omega
        have gq : (q.length : Int) < (q.length : Int) + 1 := by omega
        have gq0 : (0 : Int) ≤ (q.length : Int) := by omega
        clear hT ho hL hvb hbs hss hdl hde hc' hx
        go_wp2_with fail
        go_region_with (go_at_call 57; refine (HFI.out _ (bdrew (Below.refl _ _))).mono ?_; rintro e w8 ⟨rfl, hb8'⟩)
        all_goals
          have hb8 : Below w7.heap.size w7 w8 := (bdrew (Below.refl w7.heap.size w7)).trans hb8'
          have hs8 := hb8.size
          have hgl : g < w7.heap.size := blk_lt hgc
          have hz7 := blk_lt HZ7.out
          have HZ8 := Lib.hid ((hb8.block _ hz7).trans HZ7.out)
          have HGC8 := Lib.hid ((hb8.block _ hgl).trans hgc)
          have y38 : w8.cell? ⟨g, o + 3, none⟩ = some (.slice A' d0.files.length c') := (hb8.cell (p := ⟨g, o + 3, none⟩) hgl).trans y3
          have hb8w := bstep hb7 hb7.size hb8
          have htbl := blk_lt HH7.out.box
          have hbW1 : ∀ k ∈ bl, k < w2.heap.size ∧ w1.heap.size ≤ k := HBL2.out
          have Y3 := Lib.hid y3
          clear y3 y3d hb8' x7 x7d
          obtain ⟨i, hi⟩ : ∃ i, lowB d0.files n = i := ⟨_, rfl⟩
          have hil : i < d0.files.length := by
            have h0 := HDX.out
            rw [hi] at h0
            exact (List.getElem?_eq_some_iff.1 h0).1
          have HI9 := Lib.hid hi
          rw [hi]
          have ho8 : w8.ownsRow w1.heap.size 25 4 (.slice A' d0.files.length c') d0.files.length inner := own_move HO9.out fun k hk => hb8.block k (own_lt HO9.out k hk)
          obtain ⟨gr', rfl⟩ : ∃ gr', A' = some ⟨gr', 0, none⟩ := by
            rcases ho8.2 with ⟨_, h0⟩ | ⟨gr', cap', cur, he, _⟩
            · omega
            · injection he with e1 _ _
              exact ⟨gr', e1⟩
          have hgrg : gr' ≠ g := fun e => (HVB.out gr' rfl).2.1 e
          have HDEL := Lib.hid (delete_calls gr' d0.files.length c' inner i w1.heap.size w8 ho8 hil (LT_one' _ _ _ _ HL9.out) (by omega))
          have w1i : IntKind.i64.wrap ((i : Int) + 1) = (i : Int) + 1 := by rw [IntKind.wrap_i64]; omega
          clear hi ho8
          go_wp2_with fail
          refine HDEL.out.mono ?_
          rintro e w9 ⟨rfl, hown9, hon9⟩
          have HOWN9 := Lib.hid hown9
          have HG9 := Lib.hid (hon9.block g (by omega) (Ne.symm hgrg))
          have y39 : w9.cell? ⟨g, o + 3, none⟩ = some (.slice (some ⟨gr', 0, none⟩) d0.files.length c') := (cell_eqv HG9.out (o + 3)).trans y38
          have yf9 : w9.frozen? ⟨g, o + 3, none⟩ = false := unfr (HG9.out.trans HGC8.out) (o + 3)
          have hO9 : Only (fun k => k = g ∨ k = gr') w8 (w9.setCell ⟨g, o + 3, none⟩ (.slice (some ⟨gr', 0, none⟩) (d0.files.length - 1) c')) := hon9.trans (Only.setCell w9 ⟨g, o + 3, none⟩ _) (fun k _ h => .inr h) (fun k _ h => .inl h)
          have hlow : ∀ k, (k = g ∨ k = gr') → w1.heap.size ≤ k := by
            rintro k (e | e)
            · rcases hgm with h | h
              · omega
              · have := (hbW1 g h).2
                omega
            · have := (hbW1 _ (HVB.out gr' rfl).1).2
              omega
          have HZ9 := Lib.hid ((hO9.block (w.heap.size + 1) (by omega) (fun e => by have := hlow _ e; omega)).trans HZ8.out)
          have hb9 := hb8w.trans (hO9.below (B := w.heap.size) (by omega) (fun k hk e => by have := hlow _ e; omega))
          have hrow9 : ((w9.setCell ⟨g, o + 3, none⟩ (.slice (some ⟨gr', 0, none⟩) (d0.files.length - 1) c'))).ownsRow w1.heap.size 25 4 (.slice (some ⟨gr', 0, none⟩) (d0.files.length - 1) c') (d0.files.length - 1) (inner.take (i * 4) ++ inner.drop ((i + 1) * 4)) :=
            own_move HOWN9.out fun k hk => Below.heap_setCell _ _ _ _ (fun e => hgrg (by injection hk with hk; exact hk.trans e))
          have hgW : ((w9.setCell ⟨g, o + 3, none⟩ (.slice (some ⟨gr', 0, none⟩) (d0.files.length - 1) c'))).heap[g]? = (w7.setCell ⟨g, o + 3, none⟩ (.slice (some ⟨gr', 0, none⟩) (d0.files.length - 1) c')).heap[g]? := setCell_same ⟨g, o + 3, none⟩ _ (HG9.out.trans (hb8.block g hgl))
          have HTT : ∃ v3 bl2, HeldC w2.heap.size w1.heap.size (putP t q { d0 with files := delF d0.files n }) v3 bl2 (w9.setCell ⟨g, o + 3, none⟩ (.slice (some ⟨gr', 0, none⟩) (d0.files.length - 1) c')) ∧ ∀ k ∈ bl2, k ∈ bl ∨ k ∈ ([] : List Nat) ∨ w7.heap.size ≤ k := by
            obtain ⟨b1, b2, b3, hbb, hLI⟩ := LT_del i HL9.out
            have hins : delF d0.files n = d0.files.take i ++ d0.files.drop (i + 1) := by
              unfold delF
              rw [HI9.out]
            rw [hins]
            refine HT9.out _ _ _ _ b1 b2 b3 [] gr' hLI hbb List.nodup_nil (fun k hk => (by cases hk)) (fun k hk h1 h2 => ?_) hgW ?_ rfl (.inl rfl)
            · have hk7 : k < w7.heap.size := by
                rcases hk with rfl | h | h
                · exact htbl
                · have := (hbW1 k h).1
                  omega
                · cases h
              exact (hO9.block k (by omega) (fun e => e.elim h1 (fun e => h2 (by rw [e]; rfl)))).trans (hb8.block k hk7)
            · have hlen : (d0.files.take i ++ d0.files.drop (i + 1)).length = d0.files.length - 1 := by
                rw [List.length_append, List.length_take, List.length_drop]
                omega
              rw [hlen]
              exact hrow9
          have hO9s := hO9.size
          have hs9 := hon9.size
          clear HDEL hrow9 hgW hO9 HOWN9 hown9 hon9 HG9
          have HTT9 := Lib.hid HTT
          clear HTT
          obtain ⟨v3, bl2, hH9, hs9⟩ := HTT9.out
          clear HTT9 hs9
          obtain ⟨W9, hW9⟩ : ∃ W9, (w9.setCell ⟨g, o + 3, none⟩ (.slice (some ⟨gr', 0, none⟩) (d0.files.length - 1) c')) = W9 := ⟨_, rfl⟩
          rw [hW9] at hH9 hb9 HZ9 hO9s
          generalize putP t q { d0 with files := delF d0.files n } = u at *
          obtain ⟨A9, c9, rfl, hat9⟩ := hH9.at
          have HH9 := Lib.hid hH9
          have r0 := hat9.c0
          have r1 := hat9.c1
          have r2 := hat9.c2
          have r3 := hat9.c3
          clear hat9 hH9 HT9 HO9 HL9 HVB HFI HCP HGC HGN
          have HZF := Lib.hid (store4_box HZ9.out (.string u.name) (.int .u8 u.kind) (.string u.data) (.slice A9 u.files.length c9))
          have HB9 := Lib.hid (store4_below hb9 (g := w.heap.size + 1) (by omega) (.string u.name) (.int .u8 u.kind) (.string u.data) (.slice A9 u.files.length c9))
          have z0 := cell_of (j := 0) HZ9.out rfl
          have z1 := cell_of (j := 1) HZ9.out rfl
          have z2 := cell_of (j := 2) HZ9.out rfl
          have z3 := cell_of (j := 3) HZ9.out rfl
          have u0 := unfr HZ9.out 0
          have u1 := unfr HZ9.out 1
          have u2 := unfr HZ9.out 2
          have u3 := unfr HZ9.out 3
          go_wp2_with fail
          refine bodyPost_ret (results_ct rfl _ _ (w.heap.size + 1) 25 #[.string u.name, .int .u8 u.kind, .string u.data, .slice A9 u.files.length c9] (0, 0) _ rfl HZF.out Tryd.underlying25 rfl (by kernel_rfl)) rfl ?_
          rw [HG4.out]
          have hst := fun k hk => store4_other W9 (g := w.heap.size + 1) (k := k) hk (.string u.name) (.int .u8 u.kind) (.string u.data) (.slice A9 u.files.length c9)
          have hsz9 : ((((W9.setCell ⟨w.heap.size + 1, 0, none⟩ (.string u.name)).setCell ⟨w.heap.size + 1, 1, none⟩ (.int .u8 u.kind)).setCell ⟨w.heap.size + 1, 2, none⟩ (.string u.data)).setCell ⟨w.heap.size + 1, 3, none⟩ (.slice A9 u.files.length c9)).heap.size = W9.heap.size := by simp [World.setCell]
          have hall : ∀ W' : World, (∀ k, w.heap.size ≤ k → k < ((((W9.setCell ⟨w.heap.size + 1, 0, none⟩ (.string u.name)).setCell ⟨w.heap.size + 1, 1, none⟩ (.int .u8 u.kind)).setCell ⟨w.heap.size + 1, 2, none⟩ (.string u.data)).setCell ⟨w.heap.size + 1, 3, none⟩ (.slice A9 u.files.length c9)).heap.size → W'.heap[k]? = ((((W9.setCell ⟨w.heap.size + 1, 0, none⟩ (.string u.name)).setCell ⟨w.heap.size + 1, 1, none⟩ (.int .u8 u.kind)).setCell ⟨w.heap.size + 1, 2, none⟩ (.string u.data)).setCell ⟨w.heap.size + 1, 3, none⟩ (.slice A9 u.files.length c9)).heap[k]?) → u.files.length ≤ c9 ∧ FileK.C W' A9 u.files.length u.files := by
            intro W' hW
            have hFT := FT_move _ _ _ W' _ _ HH9.out.ft fun k hk => by
              have hk2 := FT_lt _ _ _ _ _ HH9.out.ft k hk
              exact (hW k (by omega) (by omega)).trans (hst k (by omega))
            obtain ⟨A0, c0, he0, hle0, hC0⟩ := FT_reads _ _ _ _ _ hFT
            injection he0 with e1 _ e2
            subst e1
            subst e2
            exact ⟨hle0, hC0⟩
          exact ⟨A9, c9, rfl, (hall _ fun _ _ _ => rfl).1, fun W' hW => (hall W' hW).2, HB9.out⟩
end Go.Proofs.YthlcjjhfkldmhaaDoor.G
end
