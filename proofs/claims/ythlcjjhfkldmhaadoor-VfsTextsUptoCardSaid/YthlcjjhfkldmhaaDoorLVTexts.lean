/- The law VfsTexts, walked. Printed by wip/tools/gen_lvtexts.py. -/
import Derived.Test.YthlcjjhfkldmhaaDoorVTextJ
import Derived.Test.YthlcjjhfkldmhaaDoorVTextI
import Derived.Test.YthlcjjhfkldmhaaDoorPRef2
import Derived.Test.YthlcjjhfkldmhaaDoorVBegins
set_option linter.unusedVariables false
set_option linter.unusedSimpArgs false
namespace Go.Proofs.YthlcjjhfkldmhaaDoor.G
open Go.RowKit Go.Lib Go.Proofs.YthlcjjhfkldmhaaDoorW.PrintWords Go.Proofs.YthlcjjhfkldmhaaDoorW.PrintLast
set_option linter.unusedVariables false
set_option linter.unusedSimpArgs false

theorem ttree_calls {w wr : World} {g : Nat} {u : File} {k : Nat} (hI : TreeI w g u k wr) (hb : u.bulk ≤ 1099511627776) :
    Calls Tryd.prog 23 #[.pointer (some ⟨g, 0, none⟩)] wr fun e w' => ∃ A c, e = .returned (fileV u A c) ∧ u.files.length ≤ c ∧ FileK.C w' A u.files.length u.files ∧ Below wr.heap.size wr w' := by
  obtain ⟨S, f, h1, h2, h3, h4, h5, h6⟩ := hI
  subst h3
  refine (tree_in wr g S f h1 hb).mono ?_
  rintro e w' ⟨A, c, rfl, hc, hR, hq⟩
  obtain ⟨_, _, hC⟩ := Kd.R_reads' hR
  exact ⟨A, c, rfl, hc, hC, hq⟩
set_option maxHeartbeats 8000000 in
set_option maxRecDepth 100000 in
theorem lvtexts_all (t : File) (A : Option Addr) (c : Nat) (Ap : Option Addr) (cp : Nat) (p : List ByteArray) (Aq : Option Addr) (cq : Nat) (to_ : List ByteArray) (Al : Option Addr) (cl : Nat) (l : List ByteArray) (w : World) (ht : FileK.C w A t.files.length t.files) (hc : t.files.length ≤ c) (hbt : t.bulk ≤ 1048576) (hp : Kd.C Kd.string w Ap p.length p) (hcp : p.length ≤ cp) (hps0 : sumP p ≤ 1048576) (hq : Kd.C Kd.string w Aq to_.length to_) (hcq : to_.length ≤ cq) (hqs0 : sumP to_ ≤ 1048576) (hl : Kd.C Kd.string w Al l.length l) (hcl : l.length ≤ cl) (hls0 : sumP l ≤ 1048576) :
    Calls Tryd.prog 8 #[fileV t A c, .slice Ap p.length cp, .slice Aq to_.length cq, .slice Al l.length cl] w fun e w' => e = .returned (.bool true) ∧ Below w.heap.size w w' := by
  have hps : P.sumP p ≤ 1048576 := hps0
  have hqs : P.sumP to_ ≤ 1048576 := hqs0
  have hls : P.sumP l ≤ 1048576 := hls0
  clear hps0 hqs0 hls0
  have HT := Lib.hid ht
  have HP := Lib.hid hp
  have HQ := Lib.hid hq
  have HL := Lib.hid hl
  have hpl := P.sumP_len p
  have hql := P.sumP_len to_
  have hll := P.sumP_len l
  have hax := below_alloc (Below.refl w.heap.size w) (.cells #[.string t.name, .int .u8 t.kind, .string t.data, .slice A t.files.length c] 25)
  have HX0 := Lib.hid (blk_new w (.cells #[.string t.name, .int .u8 t.kind, .string t.data, .slice A t.files.length c] 25))
  have HAX := Lib.hid hax
  clear ht hp hq hl hax
  go_enter Tryd.func8, Tryd.ntmps8
  unfold fileV
  go_wp2_with fail
  generalize (w.alloc (.cells #[.string t.name, .int .u8 t.kind, .string t.data, .slice A t.files.length c] 25)) = W0 at *
  have hs0 := HAX.out.size
  refine (begins_calls W0).mono ?_
  rintro e w1 ⟨rfl, hq1⟩
  have hb1 := HAX.out.trans (hq1.mono hs0)
  have hs1 := hq1.size
  have HX1 := Lib.hid ((hq1.block _ (blk_lt HX0.out)).trans HX0.out)
  have l0 := cell_of (j := 0) HX1.out rfl
  have l1 := cell_of (j := 1) HX1.out rfl
  have l2 := cell_of (j := 2) HX1.out rfl
  have l3 := cell_of (j := 3) HX1.out rfl
  go_wp2_with fail
  clear l0 l1 l2 l3
  refine (show Calls Tryd.prog 19 #[.agg #[.string t.name, .int .u8 t.kind, .string t.data, .slice A t.files.length c], .slice none 0 0] w1 _ from new_in t A c none 0 [] w1 (Kd.C_below HT.out hb1) hc (by omega) (Kd.C_nil _ _) (Nat.le_refl _) (by show 0 ≤ _; omega)).mono ?_
  rintro e w2 h
  rcases h with ⟨hr, rfl, hq2⟩ | ⟨hr, g, rfl, hf, hq2⟩
  · have hb2 := hb1.trans (hq2.mono hb1.size)
    go_wp2_with fail
    go_ret
    exact ⟨rfl, hb2⟩
  have hb2 := hb1.trans (hq2.mono hb1.size)
  have hs2 := hq2.size
  have hwz := hb1.size
  have HI := Lib.hid (show TreeI w g t 0 w2 from ⟨_, _, hf, fun j hj => ⟨by have := hj.1; omega, hj.2⟩, rfl, rfl, Nat.le_refl _, hb2⟩)
  clear hf hq1 hq2 HX0 HX1 HAX hb1
  go_wp2_with fail
  refine (tcreate_calls hr hbt HI.out Ap cp p HP.out hcp hps).mono ?_
  clear HI
  rintro e w3 (⟨k, hk, rfl, hb3⟩ | ⟨hrp, rfl, q, n, T, hI⟩)
  · have hkk : (k != 0) = true := by rw [bne_iff_ne]; exact hk
    go_wp2_with fail
    go_ret
    exact ⟨rfl, hb3⟩
  have HTA := Lib.hid T
  have HI := Lib.hid hI
  clear T hI hb2
  go_wp2_with fail
  go_loopw [11, 12] (fun va vi wr => ∃ (k : Nat) (all : ByteArray), k ≤ l.length ∧ va = .string all ∧ vi = .int .i64 k ∧ (all.size : Int) ≤ P.sumP (l.take k) ∧ Hid (TreeI w g (putA t q (textF all)).1 (k + 1) wr)) (fun _ vi _ => l.length - (RowKit.intOf vi).toNat)
  case atStart => exact ⟨0, ⟨#[]⟩, by omega, rfl, rfl, (by rw [List.take_zero]; exact Int.le_refl 0), HI⟩
  case round =>
    clear HI
    obtain ⟨k, all, hk, rfl, rfl, has, HI⟩ := hrel
    have hbase := HI.out.base
    by_cases q1 : k < l.length
    · obtain ⟨ad, rfl, hx⟩ := Kd.at_string HL.out (k : Int) (by omega) (by omega)
      rw [Int.toNat_natCast] at hx
      have he : rdOf ByteArray.empty l (k : Int) = l[k] := by simp [rdOf, q1]
      rw [he] at hx
      have hx2 := (hbase.cell (World.block_lt_of_cell? w _ hx)).trans hx
      have htk : P.sumP (l.take (k + 1)) = P.sumP (l.take k) + 1 + (l[k].size : Int) := by
        rw [List.take_succ_eq_append_getElem q1, P.sumP_snoc]
        omega
      have hle : P.sumP (l.take (k + 1)) ≤ P.sumP l := by
        have h := congrArg P.sumP (List.take_append_drop (k + 1) l)
        have h2 := P.sumP_nonneg (l.drop (k + 1))
        simp only [P.sumP, List.map_append, List.sum_append] at h h2 ⊢
        omega
      have HXX := Lib.hid hx
      clear he hx
      generalize l[k] = d at *
      have g1 : (k : Int) < (l.length : Int) := by omega
      go_wp2_with fail
      refine (tappend_calls HTA.out hbt (by omega) (by omega) hrp HI.out Ap cp HP.out hcp hps d (by omega)).mono ?_
      rintro e w4 ⟨rfl, hI4⟩
      have HI4 := Lib.hid hI4
      have hx4 : w4.cell? (ad.add k) = some (.string d) := (HI4.out.base.cell (World.block_lt_of_cell? w _ HXX.out)).trans HXX.out
      clear hI4
      go_wp2_with fail
      go_roundw
      case rel => exact ⟨k + 1, all ++ d, by omega, rfl, by go_num, by rw [htk, ByteArray.size_append]; omega, HI4⟩
      case measure => simp [RowKit.intOf]; omega
    · obtain rfl : k = l.length := by omega
      have hbt2 := text_size (HTA.out.ok all)
      have hall : all.size ≤ 1048576 := by rw [List.take_length] at has; omega
      clear hbase has
      go_wp2_with fail
      refine (tread_calls HTA.out hbt hall (by omega) hrp HI.out Ap cp HP.out hcp hps).mono ?_
      clear HI
      rintro e w4 ⟨rfl, hI4⟩
      have HI4 := Lib.hid hI4
      obtain ⟨u, hu⟩ : ∃ u, (putA t q (textF all)).1 = u := ⟨_, rfl⟩
      have HU := Lib.hid hu
      have hub : u.bulk ≤ 1099511627776 := by rw [← hu]; omega
      have HQR := Lib.hid (text_real HTA.out hrp.1 all)
      have hqq : P.sumP q ≤ 1099511627776 := by
        have h := walk_sum (putA t q (textF all)).1 p true
        rw [HTA.out.wk all] at h
        simp only at h
        omega
      have hqn := P.sumP_len q
      rw [hu] at HQR
      clear hI4 hbt2 hu
      go_wp2_with fail
      refine (ttree_calls (u := u) (by rw [← HU.out]; exact HI4.out) hub).mono ?_
      rintro e w5 ⟨A5, c5, rfl, hc5, hC5, hq5⟩
      unfold fileV
      have hax6 := below_alloc (Below.refl w5.heap.size w5) (.cells #[.string u.name, .int .u8 u.kind, .string u.data, .slice A5 u.files.length c5] 25)
      have HX6 := Lib.hid (blk_new w5 (.cells #[.string u.name, .int .u8 u.kind, .string u.data, .slice A5 u.files.length c5] 25))
      have HC6 := Lib.hid (Kd.C_below hC5 hax6)
      have hq6 := hq5.trans (hax6.mono hq5.size)
      have HB6 := Lib.hid hq6
      have hw6 : Below w.heap.size w (w5.alloc (.cells #[.string u.name, .int .u8 u.kind, .string u.data, .slice A5 u.files.length c5] 25)) := HI4.out.base.trans (hq6.mono HI4.out.base.size)
      have HW6 := Lib.hid hw6
      have l0 := cell_of (j := 0) HX6.out rfl
      have l1 := cell_of (j := 1) HX6.out rfl
      have l2 := cell_of (j := 2) HX6.out rfl
      have l3 := cell_of (j := 3) HX6.out rfl
      clear hC5 hax6 hq5 hq6 hw6
      go_wp2_with fail
      clear l0 l1 l2 l3
      generalize (w5.alloc (.cells #[.string u.name, .int .u8 u.kind, .string u.data, .slice A5 u.files.length c5] 25)) = W6 at *
      refine ((show Calls Tryd.prog 12 #[.agg #[.string u.name, .int .u8 u.kind, .string u.data, .slice A5 u.files.length c5], .slice Ap p.length cp, .bool true] W6 _ from realF_calls u A5 c5 Ap cp p true W6 HC6.out hc5 hub (Kd.C_below HP.out HW6.out) hcp (by omega) (by omega))).mono ?_
      rw [HQR.out]
      rintro e w7 ⟨B, d, rfl, hd, hF7, hq7⟩
      have HF7 := Lib.hid hF7
      have HC7 := Lib.hid (Kd.C_below HC6.out hq7)
      have HX7 := Lib.hid ((hq7.block _ (blk_lt HX6.out)).trans HX6.out)
      have HB7 := Lib.hid (HB6.out.trans (hq7.mono HB6.out.size))
      have HW7 := Lib.hid (HW6.out.trans (hq7.mono HW6.out.size))
      have hs7 := hq7.size
      have hs6 := HB6.out.size
      have l0 := cell_of (j := 0) HX7.out rfl
      have l1 := cell_of (j := 1) HX7.out rfl
      have l2 := cell_of (j := 2) HX7.out rfl
      have l3 := cell_of (j := 3) HX7.out rfl
      clear hF7 hq7 HQR
      simp only at hd
      go_wp2_with fail
      clear l0 l1 l2 l3
      refine ((show Calls Tryd.prog 12 #[.agg #[.string u.name, .int .u8 u.kind, .string u.data, .slice A5 u.files.length c5], .slice Aq to_.length cq, .bool false] w7 _ from realF_calls u A5 c5 Aq cq to_ false w7 HC7.out hc5 hub (Kd.C_below HQ.out HW7.out) hcq (by omega) (by omega))).mono ?_
      rintro e w8 ⟨B2, d2, rfl, hd2, hF8, hq8⟩
      obtain ⟨⟨r, k2⟩, hr2⟩ : ∃ r, realR u to_ false = r := ⟨_, rfl⟩
      have HR2 := Lib.hid hr2
      rw [hr2] at hd2 hF8 ⊢
      simp only at hd2 hF8 ⊢
      have HW8 := Lib.hid (HW7.out.trans (hq8.mono HW7.out.size))
      have HB8 := Lib.hid (HB7.out.trans (hq8.mono HB7.out.size))
      have hs8 := hq8.size
      have HT8 := Lib.hid (treeQ_of (by rw [← HU.out]; exact HI4.out : TreeI w g u (l.length + 1 + 1) w4) HB8.out)
      have HQ8 : Hid (Kd.F Kd.string w8 (fun j => w4.heap.size ≤ j ∧ j < w8.heap.size) B q.length q) := Lib.hid fun W' hW => Kd.F_below HF7.out hq8 W' fun j h1 h2 => hW j ⟨by omega, h2⟩ h2
      have HR8 : Hid (Kd.F Kd.string w8 (fun j => w4.heap.size ≤ j ∧ j < w8.heap.size) B2 r.length r) := Lib.hid fun W' hW => hF8 W' fun j h1 h2 => hW j ⟨by omega, h2⟩ h2
      clear hF8 hr2 hq8 HF7 HX7 HX6 HC6 HC7 HI4
      by_cases hk2 : k2 = 0
      rotate_left
      · have hkb : (k2 != 0) = true := by rw [bne_iff_ne]; exact hk2
        go_wp2_with fail
        go_ret
        exact ⟨rfl, HW8.out⟩
      subst hk2
      have hrs : P.sumP r ≤ 1099511627776 := by
        obtain ⟨h1, h2, h3, h4⟩ := real_good (show (realR u to_ false).2 = 0 by rw [HR2.out])
        have h5 := walk_sum u to_ false
        rw [← h4, HR2.out] at h5
        simp only at h5
        omega
      have hrn := P.sumP_len r
      have hkk : ((0 : Int) != 0) = false := rfl
      go_wp2_with fail
      refine (trename_calls (k := l.length + 1 + 1) HTA.out hbt hall (by omega) hrp.2 (by rw [HU.out]; exact HT8.out) B d HQ8.out hd hqq Aq cq HQ.out hcq hqs).mono ?_
      rintro e w9 (⟨y, hy, rfl, hb9⟩ | ⟨rfl, v, r', hvb, hr9, hT9, hun, hrd, hgo⟩)
      · have hyy : (y != 0) = true := by rw [bne_iff_ne]; exact hy
        go_wp2_with fail
        go_ret
        exact ⟨rfl, hb9⟩
      rw [HU.out, HR2.out] at hr9
      injection hr9 with hr9 _
      subst hr9
      have HT9 := Lib.hid hT9
      have HRD := Lib.hid hrd
      have HGO := Lib.hid hgo
      have HQ9 : Hid (Kd.F Kd.string w9 (fun j => w4.heap.size ≤ j ∧ j < w8.heap.size) B q.length q) := Lib.hid (Kd.F_step HQ8.out fun j hok hj => hun j hok.1 hok.2)
      have HR9 : Hid (Kd.F Kd.string w9 (fun j => w4.heap.size ≤ j ∧ j < w8.heap.size) B2 r.length r) := Lib.hid (Kd.F_step HR8.out fun j hok hj => hun j hok.1 hok.2)
      clear hT9 hun hrd hgo HT8 HQ8 HR8 hkk
      go_wp2_with fail
      refine (P.rright_calls B2 d2 r w9 (Kd.F_now HR9.out) hd2 (by omega) (by omega)).mono ?_
      rintro e w10 ⟨rfl, hwx⟩
      obtain rfl : w10 = w9 := hwx
      have HRB : Hid (P.rightB r = P.rightB r) := Lib.hid rfl
      obtain ⟨b1, hb1⟩ : ∃ b, P.rightB r = b := ⟨_, rfl⟩
      rw [hb1] at HRB ⊢
      have HB1 := Lib.hid hb1
      clear hb1
      cases b1
      · skip
        go_wp2_with fail
        refine (tlstatQ_calls hvb (k := l.length + 1 + 1 + 1) (by omega) HT9.out B d HQ9.out hd hqq).mono ?_
        rintro e w12 ⟨a, b, y, rfl, hy, hb12, hun⟩
        have HQ12 := Lib.hid (Kd.F_now (Kd.F_step HQ9.out fun j hok hj => hun j hok.1 hok.2))
        have HR12 := Lib.hid (Kd.F_now (Kd.F_step HR9.out fun j hok hj => hun j hok.1 hok.2))
        have HY := Lib.hid hy
        have hax := below_alloc (Below.refl w12.heap.size w12) (.cells #[.int .u8 a, .int .i64 b] 50)
        have HB12 := Lib.hid hb12
        have HAX := Lib.hid hax
        clear hy hun hb12 hax
        go_wp2_with fail
        refine (P.rsame_calls B d q B2 d2 r _ (Kd.C_below HQ12.out HAX.out) hd (Kd.C_below HR12.out HAX.out) hd2 (by omega)).mono ?_
        rintro e w13 ⟨rfl, nn, rfl⟩
        have hwx := pw_below_drewN (Below.refl (w12.alloc (.cells #[.int .u8 a, .int .i64 b] 50)).heap.size (w12.alloc (.cells #[.int .u8 a, .int .i64 b] 50))) nn
        obtain ⟨b2, hb2⟩ : ∃ b, P.sameB q r = b := ⟨_, rfl⟩
        rw [hb2]
        cases b2
        · have hyy : y = 31 := HY.out ((HGO.out).resolve_left fun h => by rw [h] at hb2; simp [P.sameB] at hb2)
          subst hyy
          clear hb2
          go_wp2_with fail
          go_ret
          exact ⟨rfl, HB12.out.trans ((HAX.out.trans (hwx.mono HAX.out.size)).mono HB12.out.size)⟩
        · clear hb2
          go_wp2_with fail
          go_ret
          exact ⟨rfl, HB12.out.trans ((HAX.out.trans (hwx.mono HAX.out.size)).mono HB12.out.size)⟩
      · skip
        go_wp2_with fail
        refine (treadQ_calls hvb (k := l.length + 1 + 1 + 1) (by omega) (fun h h1 h2 => HRD.out h h1 h2 HB1.out) HT9.out B2 d2 HR9.out hd2 hrs).mono ?_
        rintro e w11 ⟨rfl, hT11, hun⟩
        have HT11 := Lib.hid hT11
        have HQ11 : Hid (Kd.F Kd.string w11 (fun j => w4.heap.size ≤ j ∧ j < w8.heap.size) B q.length q) := Lib.hid (Kd.F_step HQ9.out fun j hok hj => hun j hok.1 hok.2)
        have HR11 : Hid (Kd.F Kd.string w11 (fun j => w4.heap.size ≤ j ∧ j < w8.heap.size) B2 r.length r) := Lib.hid (Kd.F_step HR9.out fun j hok hj => hun j hok.1 hok.2)
        clear hT11 hun
        go_wp2_with fail
        refine (tlstatQ_calls hvb (k := l.length + 1 + 1 + 1 + 1) (by omega) HT11.out B d HQ11.out hd hqq).mono ?_
        rintro e w12 ⟨a, b, y, rfl, hy, hb12, hun⟩
        have HQ12 := Lib.hid (Kd.F_now (Kd.F_step HQ11.out fun j hok hj => hun j hok.1 hok.2))
        have HR12 := Lib.hid (Kd.F_now (Kd.F_step HR11.out fun j hok hj => hun j hok.1 hok.2))
        have HY := Lib.hid hy
        have hax := below_alloc (Below.refl w12.heap.size w12) (.cells #[.int .u8 a, .int .i64 b] 50)
        have HB12 := Lib.hid hb12
        have HAX := Lib.hid hax
        clear hy hun hb12 hax
        go_wp2_with fail
        refine (P.rsame_calls B d q B2 d2 r _ (Kd.C_below HQ12.out HAX.out) hd (Kd.C_below HR12.out HAX.out) hd2 (by omega)).mono ?_
        rintro e w13 ⟨rfl, nn, rfl⟩
        have hwx := pw_below_drewN (Below.refl (w12.alloc (.cells #[.int .u8 a, .int .i64 b] 50)).heap.size (w12.alloc (.cells #[.int .u8 a, .int .i64 b] 50))) nn
        obtain ⟨b2, hb2⟩ : ∃ b, P.sameB q r = b := ⟨_, rfl⟩
        rw [hb2]
        cases b2
        · have hyy : y = 31 := HY.out ((HGO.out).resolve_left fun h => by rw [h] at hb2; simp [P.sameB] at hb2)
          subst hyy
          clear hb2
          go_wp2_with fail
          go_ret
          exact ⟨rfl, HB12.out.trans ((HAX.out.trans (hwx.mono HAX.out.size)).mono HB12.out.size)⟩
        · clear hb2
          go_wp2_with fail
          go_ret
          exact ⟨rfl, HB12.out.trans ((HAX.out.trans (hwx.mono HAX.out.size)).mono HB12.out.size)⟩
end Go.Proofs.YthlcjjhfkldmhaaDoor.G
