/- (*vfs.Fs).rename. Printed by wip/tools/gen_vren.py. -/
import Derived.Test.YthlcjjhfkldmhaaDoorVEq
set_option linter.unusedVariables false
set_option linter.unusedSimpArgs false
namespace Go.Proofs.YthlcjjhfkldmhaaDoor.G
open Go.RowKit Go.Lib Go.Proofs.YthlcjjhfkldmhaaDoorW.PrintWords Go.Proofs.YthlcjjhfkldmhaaDoorW.PrintLast
set_option linter.unusedVariables false
set_option linter.unusedSimpArgs false

set_option maxHeartbeats 8000000 in
set_option maxRecDepth 100000 in
theorem rename_fs (w : World) (g r : Nat) (O : Nat → Prop) (tb : Option Nat) (f : FsV) (x : Req) (Ap : Option Addr) (cp : Nat) (Ad : Option Addr) (cd : Nat) (hfs : FsAt w g O tb f) (hreq : w.heap[r]? = some (.cells #[.slice Ap x.p.length cp, .slice Ad x.dest.length cd, .string x.data, .int .u8 0, .int .i64 0] 94 (0, 0))) (hrg : r ≠ g) (hrO : ¬ O r) (hbt : f.tree.bulk ≤ 100000000) (hp : Kd.C Kd.string w Ap x.p.length x.p) (hcp : x.p.length ≤ cp) (hps : P.sumP x.p ≤ 1024) (hpd : Kd.C Kd.string w Ad x.dest.length x.dest) (hcd : x.dest.length ≤ cd) (hpt : P.sumP x.dest ≤ 1024) (hdb : x.data.size ≤ 100000000) :
    Calls Tryd.prog 77 #[.pointer (some ⟨g, 0, none⟩), .pointer (some ⟨r, 0, none⟩)] w fun e w' => OpPost w g r O tb f x Ap cp Ad cd (renameR f.tree x) e w' := by
  have HFS0 := Lib.hid hfs
  obtain ⟨A, c, v, m, lo, hi, hbox, hle, hiv, hsep, htr, htb, hfl, hOm, hOlt⟩ := hfs
  unfold fsCells at hbox
  have hgl := blk_lt hbox
  have hrl := blk_lt hreq
  have HS := Lib.hid (fun W (h : Below w.heap.size w W) => hiv W fun k h1 h2 => h.block k (hOlt k (hsep k h1 h2).1))
  have HFSK := Lib.hid (And.intro hle (And.intro hiv (And.intro hsep (And.intro htr (And.intro htb (And.intro hfl (And.intro hOm hOlt)))))))
  have hlen := P.sumP_len x.p
  have hlen2 := P.sumP_len x.dest
  have hb0 := Below.refl w.heap.size w
  have I := Lib.hid (Hd.base hb0 (by first | exact Nat.le_refl _ | exact Below.size hb0))
  replace I := Lib.hid (Hd.and I.out (Hd.box hbox))
  replace I := Lib.hid (Hd.and I.out (Hd.box hreq))
  replace I := Lib.hid (Hd.and I.out (Hd.reads (hp)))
  replace I := Lib.hid (Hd.and I.out (Hd.reads (hpd)))
  obtain ⟨⟨q, y, is, k⟩, hu⟩ : ∃ r, walkR f.tree x.p false = r := ⟨_, rfl⟩
  obtain ⟨⟨q2, z, is2, k2⟩, hu2⟩ : ∃ r, walkR f.tree x.dest false = r := ⟨_, rfl⟩
  have HU := Lib.hid hu
  have HU2 := Lib.hid hu2
  obtain ⟨res, hres⟩ : ∃ r, renameR f.tree x = r := ⟨_, rfl⟩
  have HR := Lib.hid (show _ = res from hres)
  rw [hres]
  clear hu hu2 hres hiv hsep htr hfl hOm hOlt hp hpd hbox htb hreq
  go_enter Tryd.func77, Tryd.ntmps77
  go_wp2_with fail
  refine start_ (n := 19) (S := fun w' => w'.heap[g]? = some (.cells #[.string f.tree.name, .int .u8 f.tree.kind, .string f.tree.data, .slice A f.tree.files.length c, v, .map (some m)] 86 (0, 0)) ∧ w'.heap[r]? = some (.cells #[.slice Ap x.p.length cp, .slice Ad x.dest.length cd, .string x.data, .int .u8 0, .int .i64 0] 94 (0, 0))) (ds := [16]) (bq 19 0) (by kernel_rfl) rfl rfl ⟨(I.out _ (bdrew (Below.refl w.heap.size w))).2.2.2.1, (I.out _ (bdrew (Below.refl w.heap.size w))).2.2.1⟩ (fun hHeld => ?_)
  refine pure_ (i := 0) (N := some 13) (v := ?_) (a' := ?_) (bq 19 1) rfl rfl (by kernel_rfl) (fun _ _ _ h => h) (Or.inl ⟨by rfl, ?_⟩) ?_ ?_
  rotate_left
  · intro w'
    go_simp
    with_reducible rfl
  rotate_left
  · simp only [Act.put, List.setIfInBounds_toArray, List.set_cons_zero, List.set_cons_succ, i64_w, i32_w]
    rfl
  refine pure_ (i := 1) (N := some 14) (v := ?_) (a' := ?_) (bq 19 3) rfl rfl (by kernel_rfl) (fun _ _ _ h => h) (Or.inl ⟨by rfl, ?_⟩) ?_ ?_
  rotate_left
  · intro w'
    go_simp
    with_reducible rfl
  rotate_left
  · simp only [Act.put, List.setIfInBounds_toArray, List.set_cons_zero, List.set_cons_succ, i64_w, i32_w]
    rfl
  refine pure_ (i := 2) (N := some 15) (v := ?_) (a' := ?_) (bq 19 7) rfl rfl (by kernel_rfl) (fun _ _ _ h => h) (Or.inl ⟨by rfl, ?_⟩) ?_ ?_
  rotate_left
  · intro w'
    go_simp
    with_reducible rfl
  rotate_left
  · simp only [Act.put, List.setIfInBounds_toArray, List.set_cons_zero, List.set_cons_succ, i64_w, i32_w]
    rfl
  refine pure_ (i := 4) (N := some 17) (v := ?_) (a' := ?_) (bq 19 23) rfl rfl (by kernel_rfl) (fun _ _ _ h => h) (Or.inl ⟨by rfl, ?_⟩) ?_ ?_
  rotate_left
  · intro w'
    go_simp
    with_reducible rfl
  rotate_left
  · simp only [Act.put, List.setIfInBounds_toArray, List.set_cons_zero, List.set_cons_succ, i64_w, i32_w]
    rfl
  refine pure_ (i := 5) (N := some 18) (v := ?_) (a' := ?_) (bq 19 55) rfl rfl (by kernel_rfl) (fun _ _ _ h => h) (Or.inl ⟨by rfl, ?_⟩) ?_ ?_
  rotate_left
  · intro w'
    go_simp
    with_reducible rfl
  rotate_left
  · simp only [Act.put, List.setIfInBounds_toArray, List.set_cons_zero, List.set_cons_succ, i64_w, i32_w]
    rfl
  refine pure_ (i := 6) (N := some 19) (v := ?_) (a' := ?_) (bq 19 119) rfl rfl (by kernel_rfl) (fun _ _ _ h => h) (Or.inl ⟨by rfl, ?_⟩) ?_ ?_
  rotate_left
  · intro w'
    go_simp
    with_reducible rfl
  rotate_left
  · simp only [Act.put, List.setIfInBounds_toArray, List.set_cons_zero, List.set_cons_succ, i64_w, i32_w]
    rfl
  refine take_ (i := 3) (N := some 16) (v := ?_) (a' := ?_) (bq 19 127) rfl rfl (by kernel_rfl) (fun _ _ _ h => h) (Or.inl ⟨by rfl, ?_⟩) hHeld ?_ ?_
  rotate_left
  · rintro w' ⟨s0, s1⟩
    have q0 := cell_of (j := 0) s0 rfl
    have q1 := cell_of (j := 1) s0 rfl
    have q2 := cell_of (j := 2) s0 rfl
    have q3 := cell_of (j := 3) s0 rfl
    have q4 := cell_of (j := 4) s0 rfl
    have q5 := cell_of (j := 5) s0 rfl
    go_simp
    with_reducible rfl
  rotate_left
  · simp only [Act.put, List.setIfInBounds_toArray, List.set_cons_zero, List.set_cons_succ, i64_w, i32_w]
    rfl
  refine take_ (i := 7) (N := some 20) (v := ?_) (a' := ?_) (bq 19 255) rfl rfl (by kernel_rfl) (fun _ _ _ h => h) (Or.inl ⟨by rfl, ?_⟩) hHeld ?_ ?_
  rotate_left
  · rintro w' ⟨s0, s1⟩
    have q0 := cell_of (j := 0) s1 rfl
    have q1 := cell_of (j := 1) s1 rfl
    have q2 := cell_of (j := 2) s1 rfl
    have q3 := cell_of (j := 3) s1 rfl
    have q4 := cell_of (j := 4) s1 rfl
    go_simp
    with_reducible rfl
  rotate_left
  · simp only [Act.put, List.setIfInBounds_toArray, List.set_cons_zero, List.set_cons_succ, i64_w, i32_w]
    rfl
  refine join_ (σ := (Option Addr × Nat × Option Addr × Nat × Nat × Nat) × Nat) 4 (bq 19 32767) (fun s => match s with | ((B, d, A4, c4, lo1, hi1), gd) => [(21, .tuple #[.slice B q.length d, .agg #[.string y.name, .int .u8 y.kind, .string y.data, .slice A4 y.files.length c4], .bool is, .int .i64 k]), (12, .tuple #[.slice B q.length d, .agg #[.string y.name, .int .u8 y.kind, .string y.data, .slice A4 y.files.length c4], .bool is, .int .i64 k]), (22, .slice B q.length d), (23, .agg #[.string y.name, .int .u8 y.kind, .string y.data, .slice A4 y.files.length c4]), (24, .bool is), (25, .int .i64 k), (6, .pointer (some ⟨gd, 0, none⟩))]) (fun s W => match s with | ((B, d, A4, c4, lo1, hi1), gd) => Below w.heap.size w W ∧ w.heap.size ≤ gd ∧ W.heap[gd]? = some (.cells #[.string ⟨#[]⟩, .int .u8 0, .string ⟨#[]⟩, .slice none 0 0] 25 (0, 0)) ∧ q.length ≤ d ∧ Iv lo1 hi1 W (fun W => Kd.C Kd.string W B q.length q) ∧ w.heap.size ≤ lo1 ∧ hi1 ≤ W.heap.size ∧ (gd < lo1 ∨ hi1 ≤ gd) ∧ y.files.length ≤ c4 ∧ FileK.C w A4 y.files.length y.files) ?_ ?_
  rotate_left
  · intro hc
    refine two_ (i := 8) (j := 14) (Ni := some 21) (Nj := some 6) (bq 19 511) (bq 19 16639) rfl rfl rfl rfl (by kernel_rfl) (by decide) (by decide) (fun K hK => ?_) (fun K hK => ?_)
    · refine goes_ Tryd.func35 (by kernel_rfl) rfl #[.agg #[.string f.tree.name, .int .u8 f.tree.kind, .string f.tree.data, .slice A f.tree.files.length c], .slice Ap x.p.length cp, .bool false] (by rfl) rfl rfl (by simp only [List.map_toArray, List.map_cons, List.map_nil]; rfl) ?_
      refine ((show Calls Tryd.prog 35 #[.agg #[.string f.tree.name, .int .u8 f.tree.kind, .string f.tree.data, .slice A f.tree.files.length c], .slice Ap x.p.length cp, .bool false] _ _ from walk_calls f.tree A c Ap cp x.p false _ w ((bdrew (Below.refl w.heap.size w))) (HS.out w (Below.refl _ _)) hle (by omega) (I.out _ (bdrew (Below.refl w.heap.size w))).2.1 hcp (by omega) (by omega))).mono ?_
      rw [HU.out]
      rintro e w5 ⟨B, d, A4, c4, rfl, hd, hD, hc4, hC4, hq5⟩
      refine ⟨_, rfl, ?_⟩
      refine hK.out _ _ (⟨(I.out _ ((bdrew (Below.refl w.heap.size w)).trans hq5)).2.2.2.1, (I.out _ ((bdrew (Below.refl w.heap.size w)).trans hq5)).2.2.1⟩) (fun _ => ?_)
      refine norm_ (a' := ?_) ?_ ?_
      rotate_left
      · show Act.put _ (some 21) _ = _
        simp only [Act.put, List.setIfInBounds_toArray, List.set_cons_zero, List.set_cons_succ, i64_w, i32_w]
        rfl
      refine pure_ (i := 9) (N := some 12) (v := ?_) (a' := ?_) (bq 19 1023) rfl rfl (by kernel_rfl) (fun _ _ _ h => h) (Or.inl ⟨by rfl, ?_⟩) ?_ ?_
      rotate_left
      · intro w'
        go_simp
        with_reducible rfl
      rotate_left
      · simp only [Act.put, List.setIfInBounds_toArray, List.set_cons_zero, List.set_cons_succ, i64_w, i32_w]
        rfl
      refine pure_ (i := 10) (N := some 22) (v := ?_) (a' := ?_) (bq 19 2047) rfl rfl (by kernel_rfl) (fun _ _ _ h => h) (Or.inl ⟨by rfl, ?_⟩) ?_ ?_
      rotate_left
      · intro w'
        go_simp
        with_reducible rfl
      rotate_left
      · simp only [Act.put, List.setIfInBounds_toArray, List.set_cons_zero, List.set_cons_succ, i64_w, i32_w]
        rfl
      refine pure_ (i := 11) (N := some 23) (v := ?_) (a' := ?_) (bq 19 4095) rfl rfl (by kernel_rfl) (fun _ _ _ h => h) (Or.inl ⟨by rfl, ?_⟩) ?_ ?_
      rotate_left
      · intro w'
        go_simp
        with_reducible rfl
      rotate_left
      · simp only [Act.put, List.setIfInBounds_toArray, List.set_cons_zero, List.set_cons_succ, i64_w, i32_w]
        rfl
      refine pure_ (i := 12) (N := some 24) (v := ?_) (a' := ?_) (bq 19 8191) rfl rfl (by kernel_rfl) (fun _ _ _ h => h) (Or.inl ⟨by rfl, ?_⟩) ?_ ?_
      rotate_left
      · intro w'
        go_simp
        with_reducible rfl
      rotate_left
      · simp only [Act.put, List.setIfInBounds_toArray, List.set_cons_zero, List.set_cons_succ, i64_w, i32_w]
        rfl
      refine pure_ (i := 13) (N := some 25) (v := ?_) (a' := ?_) (bq 19 16383) rfl rfl (by kernel_rfl) (fun _ _ _ h => h) (Or.inl ⟨by rfl, ?_⟩) ?_ ?_
      rotate_left
      · intro w'
        go_simp
        with_reducible rfl
      rotate_left
      · simp only [Act.put, List.setIfInBounds_toArray, List.set_cons_zero, List.set_cons_succ, i64_w, i32_w]
        rfl
      refine one_ (i := 14) (N := some 6) (bq 19 32767) rfl rfl (by kernel_rfl) (by decide) (fun K hK => ?_)
      refine value_ (w1 := ?_) (v := ?_) (by rfl) rfl ?_ ?_
      rotate_left 2
      · go_simp
        constructor
        · rfl
        · rfl
      refine hK.out _ _ (⟨(I.out _ (below_alloc ((bdrew (Below.refl w.heap.size w)).trans hq5) _)).2.2.2.1, (I.out _ (below_alloc ((bdrew (Below.refl w.heap.size w)).trans hq5) _)).2.2.1⟩) (fun _ => ?_)
      refine norm_ (a' := _) ?_ (hc ((B, d, A4, c4, w.drew.heap.size, w5.heap.size), w5.heap.size) _ (⟨below_alloc ((bdrew (Below.refl w.heap.size w)).trans hq5) _, ((bdrew (Below.refl w.heap.size w)).trans hq5).size, blk_new w5 _, hd, Iv.mv hD fun k _ h2 => (below_alloc (Below.refl w5.heap.size w5) _).block k h2, (bdrew (Below.refl w.heap.size w)).size, (below_alloc (Below.refl w5.heap.size w5) _).size, .inr (Nat.le_refl _), hc4, hC4⟩))
      simp only [putAll, Act.put, List.setIfInBounds_toArray, List.set_cons_zero, List.set_cons_succ]
    · refine value_ (w1 := ?_) (v := ?_) (by rfl) rfl ?_ ?_
      rotate_left 2
      · go_simp
        constructor
        · rfl
        · rfl
      refine hK.out _ _ (⟨(I.out _ (below_alloc (bdrew (Below.refl w.heap.size w)) (.cells #[.string ⟨#[]⟩, .int .u8 0, .string ⟨#[]⟩, .slice none 0 0] 25))).2.2.2.1, (I.out _ (below_alloc (bdrew (Below.refl w.heap.size w)) (.cells #[.string ⟨#[]⟩, .int .u8 0, .string ⟨#[]⟩, .slice none 0 0] 25))).2.2.1⟩) (fun _ => ?_)
      refine norm_ (a' := ?_) ?_ ?_
      rotate_left
      · show Act.put _ (some 6) _ = _
        simp only [Act.put, List.setIfInBounds_toArray, List.set_cons_zero, List.set_cons_succ, i64_w, i32_w]
        rfl
      refine one_ (i := 8) (N := some 21) (bq 19 16895) rfl rfl (by kernel_rfl) (by decide) (fun K hK => ?_)
      refine goes_ Tryd.func35 (by kernel_rfl) rfl #[.agg #[.string f.tree.name, .int .u8 f.tree.kind, .string f.tree.data, .slice A f.tree.files.length c], .slice Ap x.p.length cp, .bool false] (by rfl) rfl rfl (by simp only [List.map_toArray, List.map_cons, List.map_nil]; rfl) ?_
      refine ((show Calls Tryd.prog 35 #[.agg #[.string f.tree.name, .int .u8 f.tree.kind, .string f.tree.data, .slice A f.tree.files.length c], .slice Ap x.p.length cp, .bool false] _ _ from walk_calls f.tree A c Ap cp x.p false _ w ((below_alloc (bdrew (Below.refl w.heap.size w)) (.cells #[.string ⟨#[]⟩, .int .u8 0, .string ⟨#[]⟩, .slice none 0 0] 25))) (HS.out w (Below.refl _ _)) hle (by omega) (I.out _ (below_alloc (bdrew (Below.refl w.heap.size w)) (.cells #[.string ⟨#[]⟩, .int .u8 0, .string ⟨#[]⟩, .slice none 0 0] 25))).2.1 hcp (by omega) (by omega))).mono ?_
      rw [HU.out]
      rintro e w5 ⟨B, d, A4, c4, rfl, hd, hD, hc4, hC4, hq5⟩
      refine ⟨_, rfl, ?_⟩
      refine hK.out _ _ (⟨(I.out _ ((below_alloc (bdrew (Below.refl w.heap.size w)) (.cells #[.string ⟨#[]⟩, .int .u8 0, .string ⟨#[]⟩, .slice none 0 0] 25)).trans (hq5.mono (below_alloc (Below.refl w.drew.heap.size w.drew) (.cells #[.string ⟨#[]⟩, .int .u8 0, .string ⟨#[]⟩, .slice none 0 0] 25)).size))).2.2.2.1, (I.out _ ((below_alloc (bdrew (Below.refl w.heap.size w)) (.cells #[.string ⟨#[]⟩, .int .u8 0, .string ⟨#[]⟩, .slice none 0 0] 25)).trans (hq5.mono (below_alloc (Below.refl w.drew.heap.size w.drew) (.cells #[.string ⟨#[]⟩, .int .u8 0, .string ⟨#[]⟩, .slice none 0 0] 25)).size))).2.2.1⟩) (fun _ => ?_)
      refine norm_ (a' := ?_) ?_ ?_
      rotate_left
      · show Act.put _ (some 21) _ = _
        simp only [Act.put, List.setIfInBounds_toArray, List.set_cons_zero, List.set_cons_succ, i64_w, i32_w]
        rfl
      refine pure_ (i := 9) (N := some 12) (v := ?_) (a' := ?_) (bq 19 17407) rfl rfl (by kernel_rfl) (fun _ _ _ h => h) (Or.inl ⟨by rfl, ?_⟩) ?_ ?_
      rotate_left
      · intro w'
        go_simp
        with_reducible rfl
      rotate_left
      · simp only [Act.put, List.setIfInBounds_toArray, List.set_cons_zero, List.set_cons_succ, i64_w, i32_w]
        rfl
      refine pure_ (i := 10) (N := some 22) (v := ?_) (a' := ?_) (bq 19 18431) rfl rfl (by kernel_rfl) (fun _ _ _ h => h) (Or.inl ⟨by rfl, ?_⟩) ?_ ?_
      rotate_left
      · intro w'
        go_simp
        with_reducible rfl
      rotate_left
      · simp only [Act.put, List.setIfInBounds_toArray, List.set_cons_zero, List.set_cons_succ, i64_w, i32_w]
        rfl
      refine pure_ (i := 11) (N := some 23) (v := ?_) (a' := ?_) (bq 19 20479) rfl rfl (by kernel_rfl) (fun _ _ _ h => h) (Or.inl ⟨by rfl, ?_⟩) ?_ ?_
      rotate_left
      · intro w'
        go_simp
        with_reducible rfl
      rotate_left
      · simp only [Act.put, List.setIfInBounds_toArray, List.set_cons_zero, List.set_cons_succ, i64_w, i32_w]
        rfl
      refine pure_ (i := 12) (N := some 24) (v := ?_) (a' := ?_) (bq 19 24575) rfl rfl (by kernel_rfl) (fun _ _ _ h => h) (Or.inl ⟨by rfl, ?_⟩) ?_ ?_
      rotate_left
      · intro w'
        go_simp
        with_reducible rfl
      rotate_left
      · simp only [Act.put, List.setIfInBounds_toArray, List.set_cons_zero, List.set_cons_succ, i64_w, i32_w]
        rfl
      refine pure_ (i := 13) (N := some 25) (v := ?_) (a' := ?_) (bq 19 32767) rfl rfl (by kernel_rfl) (fun _ _ _ h => h) (Or.inl ⟨by rfl, ?_⟩) ?_ ?_
      rotate_left
      · intro w'
        go_simp
        with_reducible rfl
      rotate_left
      · simp only [Act.put, List.setIfInBounds_toArray, List.set_cons_zero, List.set_cons_succ, i64_w, i32_w]
        rfl
      refine norm_ (a' := _) ?_ (hc ((B, d, A4, c4, (w.drew.alloc (.cells #[.string ⟨#[]⟩, .int .u8 0, .string ⟨#[]⟩, .slice none 0 0] 25)).heap.size, w5.heap.size), w.heap.size) _ (⟨((below_alloc (bdrew (Below.refl w.heap.size w)) (.cells #[.string ⟨#[]⟩, .int .u8 0, .string ⟨#[]⟩, .slice none 0 0] 25)).trans (hq5.mono (below_alloc (Below.refl w.drew.heap.size w.drew) (.cells #[.string ⟨#[]⟩, .int .u8 0, .string ⟨#[]⟩, .slice none 0 0] 25)).size)), Nat.le_refl _, (hq5.block _ (blk_lt (blk_new w.drew (.cells #[.string ⟨#[]⟩, .int .u8 0, .string ⟨#[]⟩, .slice none 0 0] 25)))).trans (blk_new w.drew (.cells #[.string ⟨#[]⟩, .int .u8 0, .string ⟨#[]⟩, .slice none 0 0] 25)), hd, hD, (below_alloc (bdrew (Below.refl w.heap.size w)) (.cells #[.string ⟨#[]⟩, .int .u8 0, .string ⟨#[]⟩, .slice none 0 0] 25)).size, Nat.le_refl _, .inl (blk_lt (blk_new w.drew (.cells #[.string ⟨#[]⟩, .int .u8 0, .string ⟨#[]⟩, .slice none 0 0] 25))), hc4, hC4⟩))
      simp only [putAll, Act.put, List.setIfInBounds_toArray, List.set_cons_zero, List.set_cons_succ]
  · rintro ⟨⟨B, d, A4, c4, lo1, hi1⟩, gd⟩ W hF
    refine norm_ (a' := ?_) ?_ ?_
    rotate_left
    · simp only [putAll, Act.put, List.setIfInBounds_toArray, List.set_cons_zero, List.set_cons_succ]
      rfl
    obtain ⟨hbW, hgd, hzz, hd, hD, hlo1, hhi1, hsp, hc4, hC4⟩ := hF
    have hHeld := (show W.heap[g]? = some (.cells #[.string f.tree.name, .int .u8 f.tree.kind, .string f.tree.data, .slice A f.tree.files.length c, v, .map (some m)] 86 (0, 0)) ∧ W.heap[r]? = some (.cells #[.slice Ap x.p.length cp, .slice Ad x.dest.length cd, .string x.data, .int .u8 0, .int .i64 0] 94 (0, 0)) from ⟨(I.out _ hbW).2.2.2.1, (I.out _ hbW).2.2.1⟩)
    refine pure_ (i := 15) (N := some 5) (v := ?_) (a' := ?_) (bq 19 65535) rfl rfl (by kernel_rfl) (fun _ _ _ h => h) (Or.inl ⟨by rfl, ?_⟩) ?_ ?_
    rotate_left
    · intro w'
      go_simp
      with_reducible rfl
    rotate_left
    · simp only [Act.put, List.setIfInBounds_toArray, List.set_cons_zero, List.set_cons_succ, i64_w, i32_w]
      rfl
    refine last_ (i := 16) (N := none) (bq 19 131071) rfl rfl (by kernel_rfl) (by decide) (fun K hK => ?_)
    have zc0 := cell_of (j := 0) hzz rfl
    have zu0 := unfr hzz 0
    have zc1 := cell_of (j := 1) hzz rfl
    have zu1 := unfr hzz 1
    have zc2 := cell_of (j := 2) hzz rfl
    have zu2 := unfr hzz 2
    have zc3 := cell_of (j := 3) hzz rfl
    have zu3 := unfr hzz 3
    refine skip_ (w1 := ?_) (by rfl) rfl ?_ ?_
    rotate_left
    · go_simp
      rfl
    refine hK.out _ _ ?_
    refine pure_ (i := 17) (N := some 7) (v := ?_) (a' := ?_) (bq 19 262143) rfl rfl (by kernel_rfl) (fun _ _ _ h => h) (Or.inl ⟨by rfl, ?_⟩) ?_ ?_
    rotate_left
    · intro w'
      go_simp
      with_reducible rfl
    rotate_left
    · simp only [Act.put, List.setIfInBounds_toArray, List.set_cons_zero, List.set_cons_succ, i64_w, i32_w]
      rfl
    refine pure_ (i := 18) (N := some 8) (v := ?_) (a' := ?_) (bq 19 524287) rfl rfl (by kernel_rfl) (fun _ _ _ h => h) (Or.inl ⟨by rfl, ?_⟩) ?_ ?_
    rotate_left
    · intro w'
      go_simp
      with_reducible rfl
    rotate_left
    · simp only [Act.put, List.setIfInBounds_toArray, List.set_cons_zero, List.set_cons_succ, i64_w, i32_w]
      rfl
    refine done_ (by kernel_rfl) ?_
    have hq6 := store4_below hbW (g := gd) hgd (.string y.name) (.int .u8 y.kind) (.string y.data) (.slice A4 y.files.length c4)
    have hd6 := store4_box hzz (.string y.name) (.int .u8 y.kind) (.string y.data) (.slice A4 y.files.length c4)
    replace I := Lib.hid (Hd.mv I.out hq6)
    replace I := Lib.hid (Hd.and I.out (Hd.box (hd6)))
    have hIV6 := Lib.hid (hD.mv (w' := ((((W.setCell ⟨gd, 0, none⟩ (.string y.name)).setCell ⟨gd, 1, none⟩ (.int .u8 y.kind)).setCell ⟨gd, 2, none⟩ (.string y.data)).setCell ⟨gd, 3, none⟩ (.slice A4 y.files.length c4))) fun k h1 h2 => store4_other W (g := gd) (by omega) _ _ _ _)
    have HCY := Lib.hid hC4
    have hsz6 : ((((W.setCell ⟨gd, 0, none⟩ (.string y.name)).setCell ⟨gd, 1, none⟩ (.int .u8 y.kind)).setCell ⟨gd, 2, none⟩ (.string y.data)).setCell ⟨gd, 3, none⟩ (.slice A4 y.files.length c4)).heap.size = W.heap.size := by simp [World.setCell]
    have hhi6 : hi1 ≤ ((((W.setCell ⟨gd, 0, none⟩ (.string y.name)).setCell ⟨gd, 1, none⟩ (.int .u8 y.kind)).setCell ⟨gd, 2, none⟩ (.string y.data)).setCell ⟨gd, 3, none⟩ (.slice A4 y.files.length c4)).heap.size := by omega
    clear zc0 zc1 zc2 zc3 zu0 zu1 zu2 zu3 hHeld hK hd6 hD hC4 hsz6 hzz hsp hhi1
    generalize ((((W.setCell ⟨gd, 0, none⟩ (.string y.name)).setCell ⟨gd, 1, none⟩ (.int .u8 y.kind)).setCell ⟨gd, 2, none⟩ (.string y.data)).setCell ⟨gd, 3, none⟩ (.slice A4 y.files.length c4)) = W6 at *
    have hbw6 := I.out.now.2.2.2.2.2
    have HFS6 := Lib.hid (HFS0.out.below hbw6)
    have hs6 := hbw6.size
    have HRQ6 := Lib.hid I.out.now.2.2.2.1
    have HR1 := HR.out
    unfold renameR at HR1
    rw [HU.out, HU2.out] at HR1
    simp only at HR1
    replace HR1 := Lib.hid HR1
    clear HR
    by_cases hk : k = 0
    rotate_left
    · skip
      have HR2 := HR1.out
      rw [if_neg hk] at HR2
      replace HR2 := Lib.hid HR2
      have k1 : (k != 0) = true := by rw [bne_iff_ne]; exact hk
      have k1e : (k == 0) = false := beq_eq_false_iff_ne.2 hk
      clear hk
      go_wp2_with fail
      go_ret
      rw [← HR2.out]
      exact ⟨rfl, HFS6.out.mono (fun k h => .inl h) (fun k h => h.elim (fun h => HFS6.out.lts k h) fun h => h.2), HRQ6.out, Only.of_belowV hbw6 _⟩
    · skip
      subst hk
      have HR2 := HR1.out
      rw [if_pos rfl] at HR2
      replace HR2 := Lib.hid HR2
      cases is
      · skip
        have HR3 := HR2.out
        rw [if_neg (by decide)] at HR3
        replace HR3 := Lib.hid HR3
        go_wp2_with fail
        go_ret
        rw [← HR3.out]
        exact ⟨rfl, HFS6.out.mono (fun k h => .inl h) (fun k h => h.elim (fun h => HFS6.out.lts k h) fun h => h.2), HRQ6.out, Only.of_belowV hbw6 _⟩
      · skip
        have HR3 := HR2.out
        rw [if_pos rfl] at HR3
        replace HR3 := Lib.hid HR3
        by_cases hy : y.kind = 1
        · skip
          have HR4 := HR3.out
          rw [if_pos hy] at HR4
          replace HR4 := Lib.hid HR4
          have k2y : (y.kind == 1) = true := beq_iff_eq.2 hy
          clear hy
          have ly0 := cell_of (j := 0) I.out.now.1 rfl
          have ly1 := cell_of (j := 1) I.out.now.1 rfl
          have ly2 := cell_of (j := 2) I.out.now.1 rfl
          have ly3 := cell_of (j := 3) I.out.now.1 rfl
          go_wp2_with fail
          go_ret
          rw [← HR4.out]
          exact ⟨rfl, HFS6.out.mono (fun k h => .inl h) (fun k h => h.elim (fun h => HFS6.out.lts k h) fun h => h.2), HRQ6.out, Only.of_belowV hbw6 _⟩
        · skip
          have HR4 := HR3.out
          rw [if_neg hy] at HR4
          replace HR4 := Lib.hid HR4
          have k2y : (y.kind == 1) = false := beq_eq_false_iff_ne.2 hy
          clear hy
          have ly0 := cell_of (j := 0) I.out.now.1 rfl
          have ly1 := cell_of (j := 1) I.out.now.1 rfl
          have ly2 := cell_of (j := 2) I.out.now.1 rfl
          have ly3 := cell_of (j := 3) I.out.now.1 rfl
          go_wp2_with fail
          clear ly0 ly1 ly2 ly3
          refine start_ (n := 19) (S := fun w' => w'.heap[g]? = some (.cells #[.string f.tree.name, .int .u8 f.tree.kind, .string f.tree.data, .slice A f.tree.files.length c, v, .map (some m)] 86 (0, 0)) ∧ w'.heap[r]? = some (.cells #[.slice Ap x.p.length cp, .slice Ad x.dest.length cd, .string x.data, .int .u8 0, .int .i64 0] 94 (0, 0))) (ds := [16]) (bq 19 0) (by kernel_rfl) rfl rfl ⟨(I.out _ (bdrew (Below.refl W6.heap.size W6))).2.2.2.2.1, (I.out _ (bdrew (Below.refl W6.heap.size W6))).2.2.2.1⟩ (fun hHeld => ?_)
          refine pure_ (i := 0) (N := some 38) (v := ?_) (a' := ?_) (bq 19 1) rfl rfl (by kernel_rfl) (fun _ _ _ h => h) (Or.inl ⟨by rfl, ?_⟩) ?_ ?_
          rotate_left
          · intro w'
            go_simp
            with_reducible rfl
          rotate_left
          · simp only [Act.put, List.setIfInBounds_toArray, List.set_cons_zero, List.set_cons_succ, i64_w, i32_w]
            rfl
          refine pure_ (i := 1) (N := some 39) (v := ?_) (a' := ?_) (bq 19 3) rfl rfl (by kernel_rfl) (fun _ _ _ h => h) (Or.inl ⟨by rfl, ?_⟩) ?_ ?_
          rotate_left
          · intro w'
            go_simp
            with_reducible rfl
          rotate_left
          · simp only [Act.put, List.setIfInBounds_toArray, List.set_cons_zero, List.set_cons_succ, i64_w, i32_w]
            rfl
          refine pure_ (i := 2) (N := some 40) (v := ?_) (a' := ?_) (bq 19 7) rfl rfl (by kernel_rfl) (fun _ _ _ h => h) (Or.inl ⟨by rfl, ?_⟩) ?_ ?_
          rotate_left
          · intro w'
            go_simp
            with_reducible rfl
          rotate_left
          · simp only [Act.put, List.setIfInBounds_toArray, List.set_cons_zero, List.set_cons_succ, i64_w, i32_w]
            rfl
          refine pure_ (i := 4) (N := some 42) (v := ?_) (a' := ?_) (bq 19 23) rfl rfl (by kernel_rfl) (fun _ _ _ h => h) (Or.inl ⟨by rfl, ?_⟩) ?_ ?_
          rotate_left
          · intro w'
            go_simp
            with_reducible rfl
          rotate_left
          · simp only [Act.put, List.setIfInBounds_toArray, List.set_cons_zero, List.set_cons_succ, i64_w, i32_w]
            rfl
          refine pure_ (i := 5) (N := some 43) (v := ?_) (a' := ?_) (bq 19 55) rfl rfl (by kernel_rfl) (fun _ _ _ h => h) (Or.inl ⟨by rfl, ?_⟩) ?_ ?_
          rotate_left
          · intro w'
            go_simp
            with_reducible rfl
          rotate_left
          · simp only [Act.put, List.setIfInBounds_toArray, List.set_cons_zero, List.set_cons_succ, i64_w, i32_w]
            rfl
          refine pure_ (i := 6) (N := some 44) (v := ?_) (a' := ?_) (bq 19 119) rfl rfl (by kernel_rfl) (fun _ _ _ h => h) (Or.inl ⟨by rfl, ?_⟩) ?_ ?_
          rotate_left
          · intro w'
            go_simp
            with_reducible rfl
          rotate_left
          · simp only [Act.put, List.setIfInBounds_toArray, List.set_cons_zero, List.set_cons_succ, i64_w, i32_w]
            rfl
          refine take_ (i := 3) (N := some 41) (v := ?_) (a' := ?_) (bq 19 127) rfl rfl (by kernel_rfl) (fun _ _ _ h => h) (Or.inl ⟨by rfl, ?_⟩) hHeld ?_ ?_
          rotate_left
          · rintro w' ⟨s0, s1⟩
            have q0 := cell_of (j := 0) s0 rfl
            have q1 := cell_of (j := 1) s0 rfl
            have q2 := cell_of (j := 2) s0 rfl
            have q3 := cell_of (j := 3) s0 rfl
            have q4 := cell_of (j := 4) s0 rfl
            have q5 := cell_of (j := 5) s0 rfl
            go_simp
            with_reducible rfl
          rotate_left
          · simp only [Act.put, List.setIfInBounds_toArray, List.set_cons_zero, List.set_cons_succ, i64_w, i32_w]
            rfl
          refine take_ (i := 7) (N := some 45) (v := ?_) (a' := ?_) (bq 19 255) rfl rfl (by kernel_rfl) (fun _ _ _ h => h) (Or.inl ⟨by rfl, ?_⟩) hHeld ?_ ?_
          rotate_left
          · rintro w' ⟨s0, s1⟩
            have q0 := cell_of (j := 0) s1 rfl
            have q1 := cell_of (j := 1) s1 rfl
            have q2 := cell_of (j := 2) s1 rfl
            have q3 := cell_of (j := 3) s1 rfl
            have q4 := cell_of (j := 4) s1 rfl
            go_simp
            with_reducible rfl
          rotate_left
          · simp only [Act.put, List.setIfInBounds_toArray, List.set_cons_zero, List.set_cons_succ, i64_w, i32_w]
            rfl
          refine join_ (σ := (Option Addr × Nat × Option Addr × Nat × Nat × Nat) × Nat) 4 (bq 19 32767) (fun s => match s with | ((B2, d2, A5, c5, lo2, hi2), gd2) => [(46, .tuple #[.slice B2 q2.length d2, .agg #[.string z.name, .int .u8 z.kind, .string z.data, .slice A5 z.files.length c5], .bool is2, .int .i64 k2]), (37, .tuple #[.slice B2 q2.length d2, .agg #[.string z.name, .int .u8 z.kind, .string z.data, .slice A5 z.files.length c5], .bool is2, .int .i64 k2]), (47, .slice B2 q2.length d2), (48, .agg #[.string z.name, .int .u8 z.kind, .string z.data, .slice A5 z.files.length c5]), (49, .bool is2), (50, .int .i64 k2), (10, .pointer (some ⟨gd2, 0, none⟩))]) (fun s W => match s with | ((B2, d2, A5, c5, lo2, hi2), gd2) => Below W6.heap.size W6 W ∧ W6.heap.size ≤ gd2 ∧ W.heap[gd2]? = some (.cells #[.string ⟨#[]⟩, .int .u8 0, .string ⟨#[]⟩, .slice none 0 0] 25 (0, 0)) ∧ q2.length ≤ d2 ∧ Iv lo2 hi2 W (fun W => Kd.C Kd.string W B2 q2.length q2) ∧ W6.heap.size ≤ lo2 ∧ hi2 ≤ W.heap.size ∧ (gd2 < lo2 ∨ hi2 ≤ gd2) ∧ z.files.length ≤ c5 ∧ FileK.C w A5 z.files.length z.files) ?_ ?_
          rotate_left
          · intro hc
            refine two_ (i := 8) (j := 14) (Ni := some 46) (Nj := some 10) (bq 19 511) (bq 19 16639) rfl rfl rfl rfl (by kernel_rfl) (by decide) (by decide) (fun K hK => ?_) (fun K hK => ?_)
            · refine goes_ Tryd.func35 (by kernel_rfl) rfl #[.agg #[.string f.tree.name, .int .u8 f.tree.kind, .string f.tree.data, .slice A f.tree.files.length c], .slice Ad x.dest.length cd, .bool false] (by rfl) rfl rfl (by simp only [List.map_toArray, List.map_cons, List.map_nil]; rfl) ?_
              refine ((show Calls Tryd.prog 35 #[.agg #[.string f.tree.name, .int .u8 f.tree.kind, .string f.tree.data, .slice A f.tree.files.length c], .slice Ad x.dest.length cd, .bool false] _ _ from walk_calls f.tree A c Ad cd x.dest false _ w (hbw6.trans (((bdrew (Below.refl W6.heap.size W6))).mono hs6)) (HS.out w (Below.refl _ _)) hle (by omega) (I.out _ (bdrew (Below.refl W6.heap.size W6))).2.1 hcd (by omega) (by omega))).mono ?_
              rw [HU2.out]
              rintro e w5 ⟨B2, d2, A5, c5, rfl, hd, hD, hc4, hC4, hq5⟩
              refine ⟨_, rfl, ?_⟩
              refine hK.out _ _ (⟨(I.out _ ((bdrew (Below.refl W6.heap.size W6)).trans hq5)).2.2.2.2.1, (I.out _ ((bdrew (Below.refl W6.heap.size W6)).trans hq5)).2.2.2.1⟩) (fun _ => ?_)
              refine norm_ (a' := ?_) ?_ ?_
              rotate_left
              · show Act.put _ (some 46) _ = _
                simp only [Act.put, List.setIfInBounds_toArray, List.set_cons_zero, List.set_cons_succ, i64_w, i32_w]
                rfl
              refine pure_ (i := 9) (N := some 37) (v := ?_) (a' := ?_) (bq 19 1023) rfl rfl (by kernel_rfl) (fun _ _ _ h => h) (Or.inl ⟨by rfl, ?_⟩) ?_ ?_
              rotate_left
              · intro w'
                go_simp
                with_reducible rfl
              rotate_left
              · simp only [Act.put, List.setIfInBounds_toArray, List.set_cons_zero, List.set_cons_succ, i64_w, i32_w]
                rfl
              refine pure_ (i := 10) (N := some 47) (v := ?_) (a' := ?_) (bq 19 2047) rfl rfl (by kernel_rfl) (fun _ _ _ h => h) (Or.inl ⟨by rfl, ?_⟩) ?_ ?_
              rotate_left
              · intro w'
                go_simp
                with_reducible rfl
              rotate_left
              · simp only [Act.put, List.setIfInBounds_toArray, List.set_cons_zero, List.set_cons_succ, i64_w, i32_w]
                rfl
              refine pure_ (i := 11) (N := some 48) (v := ?_) (a' := ?_) (bq 19 4095) rfl rfl (by kernel_rfl) (fun _ _ _ h => h) (Or.inl ⟨by rfl, ?_⟩) ?_ ?_
              rotate_left
              · intro w'
                go_simp
                with_reducible rfl
              rotate_left
              · simp only [Act.put, List.setIfInBounds_toArray, List.set_cons_zero, List.set_cons_succ, i64_w, i32_w]
                rfl
              refine pure_ (i := 12) (N := some 49) (v := ?_) (a' := ?_) (bq 19 8191) rfl rfl (by kernel_rfl) (fun _ _ _ h => h) (Or.inl ⟨by rfl, ?_⟩) ?_ ?_
              rotate_left
              · intro w'
                go_simp
                with_reducible rfl
              rotate_left
              · simp only [Act.put, List.setIfInBounds_toArray, List.set_cons_zero, List.set_cons_succ, i64_w, i32_w]
                rfl
              refine pure_ (i := 13) (N := some 50) (v := ?_) (a' := ?_) (bq 19 16383) rfl rfl (by kernel_rfl) (fun _ _ _ h => h) (Or.inl ⟨by rfl, ?_⟩) ?_ ?_
              rotate_left
              · intro w'
                go_simp
                with_reducible rfl
              rotate_left
              · simp only [Act.put, List.setIfInBounds_toArray, List.set_cons_zero, List.set_cons_succ, i64_w, i32_w]
                rfl
              refine one_ (i := 14) (N := some 10) (bq 19 32767) rfl rfl (by kernel_rfl) (by decide) (fun K hK => ?_)
              refine value_ (w1 := ?_) (v := ?_) (by rfl) rfl ?_ ?_
              rotate_left 2
              · go_simp
                constructor
                · rfl
                · rfl
              refine hK.out _ _ (⟨(I.out _ (below_alloc ((bdrew (Below.refl W6.heap.size W6)).trans hq5) _)).2.2.2.2.1, (I.out _ (below_alloc ((bdrew (Below.refl W6.heap.size W6)).trans hq5) _)).2.2.2.1⟩) (fun _ => ?_)
              refine norm_ (a' := _) ?_ (hc ((B2, d2, A5, c5, W6.drew.heap.size, w5.heap.size), w5.heap.size) _ (⟨below_alloc ((bdrew (Below.refl W6.heap.size W6)).trans hq5) _, ((bdrew (Below.refl W6.heap.size W6)).trans hq5).size, blk_new w5 _, hd, Iv.mv hD fun k _ h2 => (below_alloc (Below.refl w5.heap.size w5) _).block k h2, (bdrew (Below.refl W6.heap.size W6)).size, (below_alloc (Below.refl w5.heap.size w5) _).size, .inr (Nat.le_refl _), hc4, hC4⟩))
              simp only [putAll, Act.put, List.setIfInBounds_toArray, List.set_cons_zero, List.set_cons_succ]
            · refine value_ (w1 := ?_) (v := ?_) (by rfl) rfl ?_ ?_
              rotate_left 2
              · go_simp
                constructor
                · rfl
                · rfl
              refine hK.out _ _ (⟨(I.out _ (below_alloc (bdrew (Below.refl W6.heap.size W6)) (.cells #[.string ⟨#[]⟩, .int .u8 0, .string ⟨#[]⟩, .slice none 0 0] 25))).2.2.2.2.1, (I.out _ (below_alloc (bdrew (Below.refl W6.heap.size W6)) (.cells #[.string ⟨#[]⟩, .int .u8 0, .string ⟨#[]⟩, .slice none 0 0] 25))).2.2.2.1⟩) (fun _ => ?_)
              refine norm_ (a' := ?_) ?_ ?_
              rotate_left
              · show Act.put _ (some 10) _ = _
                simp only [Act.put, List.setIfInBounds_toArray, List.set_cons_zero, List.set_cons_succ, i64_w, i32_w]
                rfl
              refine one_ (i := 8) (N := some 46) (bq 19 16895) rfl rfl (by kernel_rfl) (by decide) (fun K hK => ?_)
              refine goes_ Tryd.func35 (by kernel_rfl) rfl #[.agg #[.string f.tree.name, .int .u8 f.tree.kind, .string f.tree.data, .slice A f.tree.files.length c], .slice Ad x.dest.length cd, .bool false] (by rfl) rfl rfl (by simp only [List.map_toArray, List.map_cons, List.map_nil]; rfl) ?_
              refine ((show Calls Tryd.prog 35 #[.agg #[.string f.tree.name, .int .u8 f.tree.kind, .string f.tree.data, .slice A f.tree.files.length c], .slice Ad x.dest.length cd, .bool false] _ _ from walk_calls f.tree A c Ad cd x.dest false _ w (hbw6.trans (((below_alloc (bdrew (Below.refl W6.heap.size W6)) (.cells #[.string ⟨#[]⟩, .int .u8 0, .string ⟨#[]⟩, .slice none 0 0] 25))).mono hs6)) (HS.out w (Below.refl _ _)) hle (by omega) (I.out _ (below_alloc (bdrew (Below.refl W6.heap.size W6)) (.cells #[.string ⟨#[]⟩, .int .u8 0, .string ⟨#[]⟩, .slice none 0 0] 25))).2.1 hcd (by omega) (by omega))).mono ?_
              rw [HU2.out]
              rintro e w5 ⟨B2, d2, A5, c5, rfl, hd, hD, hc4, hC4, hq5⟩
              refine ⟨_, rfl, ?_⟩
              refine hK.out _ _ (⟨(I.out _ ((below_alloc (bdrew (Below.refl W6.heap.size W6)) (.cells #[.string ⟨#[]⟩, .int .u8 0, .string ⟨#[]⟩, .slice none 0 0] 25)).trans (hq5.mono (below_alloc (Below.refl W6.drew.heap.size W6.drew) (.cells #[.string ⟨#[]⟩, .int .u8 0, .string ⟨#[]⟩, .slice none 0 0] 25)).size))).2.2.2.2.1, (I.out _ ((below_alloc (bdrew (Below.refl W6.heap.size W6)) (.cells #[.string ⟨#[]⟩, .int .u8 0, .string ⟨#[]⟩, .slice none 0 0] 25)).trans (hq5.mono (below_alloc (Below.refl W6.drew.heap.size W6.drew) (.cells #[.string ⟨#[]⟩, .int .u8 0, .string ⟨#[]⟩, .slice none 0 0] 25)).size))).2.2.2.1⟩) (fun _ => ?_)
              refine norm_ (a' := ?_) ?_ ?_
              rotate_left
              · show Act.put _ (some 46) _ = _
                simp only [Act.put, List.setIfInBounds_toArray, List.set_cons_zero, List.set_cons_succ, i64_w, i32_w]
                rfl
              refine pure_ (i := 9) (N := some 37) (v := ?_) (a' := ?_) (bq 19 17407) rfl rfl (by kernel_rfl) (fun _ _ _ h => h) (Or.inl ⟨by rfl, ?_⟩) ?_ ?_
              rotate_left
              · intro w'
                go_simp
                with_reducible rfl
              rotate_left
              · simp only [Act.put, List.setIfInBounds_toArray, List.set_cons_zero, List.set_cons_succ, i64_w, i32_w]
                rfl
              refine pure_ (i := 10) (N := some 47) (v := ?_) (a' := ?_) (bq 19 18431) rfl rfl (by kernel_rfl) (fun _ _ _ h => h) (Or.inl ⟨by rfl, ?_⟩) ?_ ?_
              rotate_left
              · intro w'
                go_simp
                with_reducible rfl
              rotate_left
              · simp only [Act.put, List.setIfInBounds_toArray, List.set_cons_zero, List.set_cons_succ, i64_w, i32_w]
                rfl
              refine pure_ (i := 11) (N := some 48) (v := ?_) (a' := ?_) (bq 19 20479) rfl rfl (by kernel_rfl) (fun _ _ _ h => h) (Or.inl ⟨by rfl, ?_⟩) ?_ ?_
              rotate_left
              · intro w'
                go_simp
                with_reducible rfl
              rotate_left
              · simp only [Act.put, List.setIfInBounds_toArray, List.set_cons_zero, List.set_cons_succ, i64_w, i32_w]
                rfl
              refine pure_ (i := 12) (N := some 49) (v := ?_) (a' := ?_) (bq 19 24575) rfl rfl (by kernel_rfl) (fun _ _ _ h => h) (Or.inl ⟨by rfl, ?_⟩) ?_ ?_
              rotate_left
              · intro w'
                go_simp
                with_reducible rfl
              rotate_left
              · simp only [Act.put, List.setIfInBounds_toArray, List.set_cons_zero, List.set_cons_succ, i64_w, i32_w]
                rfl
              refine pure_ (i := 13) (N := some 50) (v := ?_) (a' := ?_) (bq 19 32767) rfl rfl (by kernel_rfl) (fun _ _ _ h => h) (Or.inl ⟨by rfl, ?_⟩) ?_ ?_
              rotate_left
              · intro w'
                go_simp
                with_reducible rfl
              rotate_left
              · simp only [Act.put, List.setIfInBounds_toArray, List.set_cons_zero, List.set_cons_succ, i64_w, i32_w]
                rfl
              refine norm_ (a' := _) ?_ (hc ((B2, d2, A5, c5, (W6.drew.alloc (.cells #[.string ⟨#[]⟩, .int .u8 0, .string ⟨#[]⟩, .slice none 0 0] 25)).heap.size, w5.heap.size), W6.heap.size) _ (⟨((below_alloc (bdrew (Below.refl W6.heap.size W6)) (.cells #[.string ⟨#[]⟩, .int .u8 0, .string ⟨#[]⟩, .slice none 0 0] 25)).trans (hq5.mono (below_alloc (Below.refl W6.drew.heap.size W6.drew) (.cells #[.string ⟨#[]⟩, .int .u8 0, .string ⟨#[]⟩, .slice none 0 0] 25)).size)), Nat.le_refl _, (hq5.block _ (blk_lt (blk_new W6.drew (.cells #[.string ⟨#[]⟩, .int .u8 0, .string ⟨#[]⟩, .slice none 0 0] 25)))).trans (blk_new W6.drew (.cells #[.string ⟨#[]⟩, .int .u8 0, .string ⟨#[]⟩, .slice none 0 0] 25)), hd, hD, (below_alloc (bdrew (Below.refl W6.heap.size W6)) (.cells #[.string ⟨#[]⟩, .int .u8 0, .string ⟨#[]⟩, .slice none 0 0] 25)).size, Nat.le_refl _, .inl (blk_lt (blk_new W6.drew (.cells #[.string ⟨#[]⟩, .int .u8 0, .string ⟨#[]⟩, .slice none 0 0] 25))), hc4, hC4⟩))
              simp only [putAll, Act.put, List.setIfInBounds_toArray, List.set_cons_zero, List.set_cons_succ]
          · rintro ⟨⟨B2, d2, A5, c5, lo2, hi2⟩, gd2⟩ W hF
            refine norm_ (a' := ?_) ?_ ?_
            rotate_left
            · simp only [putAll, Act.put, List.setIfInBounds_toArray, List.set_cons_zero, List.set_cons_succ]
              rfl
            obtain ⟨hbW2, hgd2, hzz2, hd2, hD2, hlo2, hhi2, hsp2, hc5, hC5⟩ := hF
            have hHeld := (show W.heap[g]? = some (.cells #[.string f.tree.name, .int .u8 f.tree.kind, .string f.tree.data, .slice A f.tree.files.length c, v, .map (some m)] 86 (0, 0)) ∧ W.heap[r]? = some (.cells #[.slice Ap x.p.length cp, .slice Ad x.dest.length cd, .string x.data, .int .u8 0, .int .i64 0] 94 (0, 0)) from ⟨(I.out _ hbW2).2.2.2.2.1, (I.out _ hbW2).2.2.2.1⟩)
            refine pure_ (i := 15) (N := some 9) (v := ?_) (a' := ?_) (bq 19 65535) rfl rfl (by kernel_rfl) (fun _ _ _ h => h) (Or.inl ⟨by rfl, ?_⟩) ?_ ?_
            rotate_left
            · intro w'
              go_simp
              with_reducible rfl
            rotate_left
            · simp only [Act.put, List.setIfInBounds_toArray, List.set_cons_zero, List.set_cons_succ, i64_w, i32_w]
              rfl
            refine last_ (i := 16) (N := none) (bq 19 131071) rfl rfl (by kernel_rfl) (by decide) (fun K hK => ?_)
            have zc0 := cell_of (j := 0) hzz2 rfl
            have zu0 := unfr hzz2 0
            have zc1 := cell_of (j := 1) hzz2 rfl
            have zu1 := unfr hzz2 1
            have zc2 := cell_of (j := 2) hzz2 rfl
            have zu2 := unfr hzz2 2
            have zc3 := cell_of (j := 3) hzz2 rfl
            have zu3 := unfr hzz2 3
            refine skip_ (w1 := ?_) (by rfl) rfl ?_ ?_
            rotate_left
            · go_simp
              rfl
            refine hK.out _ _ ?_
            refine pure_ (i := 17) (N := some 7) (v := ?_) (a' := ?_) (bq 19 262143) rfl rfl (by kernel_rfl) (fun _ _ _ h => h) (Or.inl ⟨by rfl, ?_⟩) ?_ ?_
            rotate_left
            · intro w'
              go_simp
              with_reducible rfl
            rotate_left
            · simp only [Act.put, List.setIfInBounds_toArray, List.set_cons_zero, List.set_cons_succ, i64_w, i32_w]
              rfl
            refine pure_ (i := 18) (N := some 8) (v := ?_) (a' := ?_) (bq 19 524287) rfl rfl (by kernel_rfl) (fun _ _ _ h => h) (Or.inl ⟨by rfl, ?_⟩) ?_ ?_
            rotate_left
            · intro w'
              go_simp
              with_reducible rfl
            rotate_left
            · simp only [Act.put, List.setIfInBounds_toArray, List.set_cons_zero, List.set_cons_succ, i64_w, i32_w]
              rfl
            refine done_ (by kernel_rfl) ?_
            have hq9 := store4_below hbW2 (g := gd2) hgd2 (.string z.name) (.int .u8 z.kind) (.string z.data) (.slice A5 z.files.length c5)
            have hd6 := store4_box hzz2 (.string z.name) (.int .u8 z.kind) (.string z.data) (.slice A5 z.files.length c5)
            replace I := Lib.hid (Hd.mv I.out hq9)
            replace I := Lib.hid (Hd.and I.out (Hd.box (hd6)))
            have hIV9 := Lib.hid (hD2.mv (w' := ((((W.setCell ⟨gd2, 0, none⟩ (.string z.name)).setCell ⟨gd2, 1, none⟩ (.int .u8 z.kind)).setCell ⟨gd2, 2, none⟩ (.string z.data)).setCell ⟨gd2, 3, none⟩ (.slice A5 z.files.length c5))) fun k h1 h2 => store4_other W (g := gd2) (by omega) _ _ _ _)
            have HCZ := Lib.hid hC5
            have hsz6 : ((((W.setCell ⟨gd2, 0, none⟩ (.string z.name)).setCell ⟨gd2, 1, none⟩ (.int .u8 z.kind)).setCell ⟨gd2, 2, none⟩ (.string z.data)).setCell ⟨gd2, 3, none⟩ (.slice A5 z.files.length c5)).heap.size = W.heap.size := by simp [World.setCell]
            have hhi9 : hi2 ≤ ((((W.setCell ⟨gd2, 0, none⟩ (.string z.name)).setCell ⟨gd2, 1, none⟩ (.int .u8 z.kind)).setCell ⟨gd2, 2, none⟩ (.string z.data)).setCell ⟨gd2, 3, none⟩ (.slice A5 z.files.length c5)).heap.size := by omega
            clear zc0 zc1 zc2 zc3 zu0 zu1 zu2 zu3 hHeld hK hd6 hD2 hC5 hsz6 hzz2 hsp2 hhi2
            generalize ((((W.setCell ⟨gd2, 0, none⟩ (.string z.name)).setCell ⟨gd2, 1, none⟩ (.int .u8 z.kind)).setCell ⟨gd2, 2, none⟩ (.string z.data)).setCell ⟨gd2, 3, none⟩ (.slice A5 z.files.length c5)) = W9 at *
            have hbw9 := I.out.now.2.2.2.2.2.2
            have HFS9 := Lib.hid (HFS0.out.below hbw9)
            have hs9 := hbw9.size
            have HRQ9 := Lib.hid I.out.now.2.2.2.2.1
            have hqs := walk_sum f.tree x.p false
            have hqs2 := walk_sum f.tree x.dest false
            have hyb := walk_bulk f.tree x.p false
            rw [HU.out] at hqs hyb
            rw [HU2.out] at hqs2
            simp only at hqs hqs2 hyb
            have hql := P.sumP_len q
            have hql2 := P.sumP_len q2
            have HQN : Hid (∀ n ∈ q2, n.size ≤ 1000000000) := Lib.hid fun n hn => by have := sumP_in hn; omega
            obtain ⟨bb, hbb⟩ : ∃ b, decide (q = q2) = b := ⟨_, rfl⟩
            have HBB := Lib.hid hbb
            clear hbb
            replace I := Lib.hid (Hd.and I.out (Hd.reads (hIV6.out.mv fun k _ h2 => hq9.block k (Nat.lt_of_lt_of_le h2 hhi6)).now))
            replace I := Lib.hid (Hd.and I.out (Hd.reads hIV9.out.now))
            replace I := Lib.hid (Hd.and I.out (Hd.reads (Kd.C_below HCY.out hbw9)))
            by_cases hk2 : k2 = 0
            rotate_left
            · skip
              have HR5 := HR4.out
              rw [if_neg hk2] at HR5
              replace HR5 := Lib.hid HR5
              have k3 : (k2 != 0) = true := by rw [bne_iff_ne]; exact hk2
              clear hk2
              go_wp2_with fail
              go_ret
              rw [← HR5.out]
              exact ⟨rfl, HFS9.out.mono (fun k h => .inl h) (fun k h => h.elim (fun h => HFS9.out.lts k h) fun h => h.2), HRQ9.out, Only.of_belowV hbw9 _⟩
            · skip
              subst hk2
              have HR4 := HR4.out
              rw [if_pos rfl] at HR4
              replace HR4 := Lib.hid HR4
              cases is2
              · skip
                have HR5 := HR4.out
                rw [if_neg (fun h => absurd h.1 (by decide))] at HR5
                replace HR5 := Lib.hid HR5
                go_wp2_with fail
                refine (show Calls Tryd.prog 85 #[.slice B q.length d, .slice B2 q2.length d2] W9 _ from eqP_below B d q B2 d2 q2 W9 I.out.now.2.2.1 hd I.out.now.2.1 hd2 (by omega)).mono ?_
                rw [HBB.out]
                rintro e w10 ⟨rfl, hq10⟩
                replace I := Lib.hid (Hd.mv I.out hq10)
                have hbw10 := I.out.now.2.2.2.2.2.2.2.2.2
                have HFS10 := Lib.hid (HFS0.out.below hbw10)
                have hs10 := hbw10.size
                have HRQ10 := Lib.hid I.out.now.2.2.2.2.2.2.2.1
                cases bb
                rotate_left
                · skip
                  have HR6 := HR5.out
                  rw [if_pos (of_decide_eq_true HBB.out)] at HR6
                  replace HR6 := Lib.hid HR6
                  go_wp2_with fail
                  go_ret
                  rw [← HR6.out]
                  exact ⟨rfl, HFS10.out.mono (fun k h => .inl h) (fun k h => h.elim (fun h => HFS10.out.lts k h) fun h => h.2), HRQ10.out, Only.of_belowV hbw10 _⟩
                · skip
                  have HR6 := HR5.out
                  rw [if_neg (of_decide_eq_false HBB.out)] at HR6
                  replace HR6 := Lib.hid HR6
                  obtain ⟨⟨u, k3⟩, hu3⟩ : ∃ r, dropA f.tree q = r := ⟨_, rfl⟩
                  rw [hu3] at HR6
                  have HU3 := Lib.hid hu3
                  clear hu3
                  have hub := dropA_bulk f.tree q
                  rw [HU3.out] at hub
                  simp only at hub HR6
                  have lg0 := cell_of (j := 0) I.out.now.2.2.2.2.2.2.2.2.1 rfl
                  have lg1 := cell_of (j := 1) I.out.now.2.2.2.2.2.2.2.2.1 rfl
                  have lg2 := cell_of (j := 2) I.out.now.2.2.2.2.2.2.2.2.1 rfl
                  have lg3 := cell_of (j := 3) I.out.now.2.2.2.2.2.2.2.2.1 rfl
                  have lg4 := cell_of (j := 4) I.out.now.2.2.2.2.2.2.2.2.1 rfl
                  have lg5 := cell_of (j := 5) I.out.now.2.2.2.2.2.2.2.2.1 rfl
                  go_wp2_with fail
                  clear lg0 lg1 lg2 lg3 lg4 lg5
                  refine (show Calls Tryd.prog 86 #[.agg #[.string f.tree.name, .int .u8 f.tree.kind, .string f.tree.data, .slice A f.tree.files.length c], .slice B q.length d] w10 _ from dropS f.tree A c B d q w10 (HS.out _ hbw10) hle (by omega) I.out.now.2.2.1 hd (by omega)).mono ?_
                  rw [HU3.out]
                  rintro e w11 ⟨⟨A6, c6, rfl, hc6, hC6⟩, hq11⟩
                  replace I := Lib.hid (Hd.mv I.out hq11)
                  have hbw11 := I.out.now.2.2.2.2.2.2.2.2.2
                  have HFS11 := Lib.hid (HFS0.out.below hbw11)
                  have hs11 := hbw11.size
                  have HRQ11 := Lib.hid I.out.now.2.2.2.2.2.2.2.1
                  have HIV11 := Lib.hid (show Iv w10.heap.size w11.heap.size w11 (fun W => FileK.C W A6 u.files.length u.files) from hC6)
                  clear hC6
                  by_cases hk3 : k3 = 0
                  rotate_left
                  · skip
                    have HR7 := HR6.out
                    rw [if_neg hk3] at HR7
                    replace HR7 := Lib.hid HR7
                    have k3a : (k3 != 0) = true := by rw [bne_iff_ne]; exact hk3
                    clear hk3
                    go_wp2_with fail
                    have hq12 := below_alloc (Below.refl w11.heap.size w11) (.cells #[.string u.name, .int .u8 u.kind, .string u.data, .slice A6 u.files.length c6] 25)
                    replace I := Lib.hid (Hd.mv I.out hq12)
                    replace I := Lib.hid (Hd.and I.out (Hd.box (blk_new w11 (.cells #[.string u.name, .int .u8 u.kind, .string u.data, .slice A6 u.files.length c6] 25))))
                    have hbw12 := I.out.now.2.2.2.2.2.2.2.2.2.2
                    have HFS12 := Lib.hid (HFS0.out.below hbw12)
                    have hs12 := hbw12.size
                    have HRQ12 := Lib.hid I.out.now.2.2.2.2.2.2.2.2.1
                    go_ret
                    rw [← HR7.out]
                    exact ⟨rfl, HFS12.out.mono (fun k h => .inl h) (fun k h => h.elim (fun h => HFS12.out.lts k h) fun h => h.2), HRQ12.out, Only.of_belowV hbw12 _⟩
                  · skip
                    subst hk3
                    have HR7 := HR6.out
                    rw [if_pos rfl] at HR7
                    replace HR7 := Lib.hid HR7
                    have hq12 := below_alloc (Below.refl w11.heap.size w11) (.cells #[.string u.name, .int .u8 u.kind, .string u.data, .slice A6 u.files.length c6] 25)
                    replace I := Lib.hid (Hd.mv I.out hq12)
                    replace I := Lib.hid (Hd.and I.out (Hd.box (blk_new w11 (.cells #[.string u.name, .int .u8 u.kind, .string u.data, .slice A6 u.files.length c6] 25))))
                    have hbw12 := I.out.now.2.2.2.2.2.2.2.2.2.2
                    have HFS12 := Lib.hid (HFS0.out.below hbw12)
                    have hs12 := hbw12.size
                    have HRQ12 := Lib.hid I.out.now.2.2.2.2.2.2.2.2.1
                    have HBU12 := Lib.hid I.out.now.1
                    have lu0 := cell_of (j := 0) I.out.now.1 rfl
                    have lu1 := cell_of (j := 1) I.out.now.1 rfl
                    have lu2 := cell_of (j := 2) I.out.now.1 rfl
                    have lu3 := cell_of (j := 3) I.out.now.1 rfl
                    have ly0 := cell_of (j := 0) I.out.now.2.2.2.2.2.1 rfl
                    have ly1 := cell_of (j := 1) I.out.now.2.2.2.2.2.1 rfl
                    have ly2 := cell_of (j := 2) I.out.now.2.2.2.2.2.1 rfl
                    have ly3 := cell_of (j := 3) I.out.now.2.2.2.2.2.1 rfl
                    go_wp2_with fail
                    clear lu0 lu1 lu2 lu3 ly0 ly1 ly2 ly3
                    generalize (w11.alloc (.cells #[.string u.name, .int .u8 u.kind, .string u.data, .slice A6 u.files.length c6] 25)) = W12 at *
                    obtain ⟨⟨u2, k4⟩, hu4⟩ : ∃ r, putA u q2 y = r := ⟨_, rfl⟩
                    rw [hu4] at HR7
                    simp only at HR7
                    have HU4 := Lib.hid hu4
                    clear hu4
                    have hs12b := hbw12.size
                    refine (show Calls Tryd.prog 87 #[.agg #[.string u.name, .int .u8 u.kind, .string u.data, .slice A6 u.files.length c6], .slice B2 q2.length d2, .agg #[.string y.name, .int .u8 y.kind, .string y.data, .slice A4 y.files.length c4]] W12 _ from putS u y A6 A4 c6 c4 B2 d2 q2 W12 (HIV11.out.mv fun k _ h2 => hq12.block k h2).now hc6 (by omega) I.out.now.2.2.1 hd2 (by omega) I.out.now.2.1 hc4 (by omega) HQN.out).mono ?_
                    rw [HU4.out]
                    rintro e w13 ⟨⟨A7, c7, rfl, hc7, hC7⟩, hq13⟩
                    replace I := Lib.hid (Hd.mv I.out hq13)
                    have hbw13 := I.out.now.2.2.2.2.2.2.2.2.2.2
                    have HFS13 := Lib.hid (HFS0.out.below hbw13)
                    have hs13 := hbw13.size
                    have HRQ13 := Lib.hid I.out.now.2.2.2.2.2.2.2.2.1
                    have HIV13 := Lib.hid (show Iv W12.heap.size w13.heap.size w13 (fun W => FileK.C W A7 u2.files.length u2.files) from hC7)
                    clear hC7
                    have hgu : r ≠ w11.heap.size := by omega
                    have hgg : g ≠ w11.heap.size := by omega
                    have hgl12 : w11.heap.size < W12.heap.size := blk_lt (show W12.heap[w11.heap.size]? = some (.cells #[.string u.name, .int .u8 u.kind, .string u.data, .slice A6 u.files.length c6] 25 (0, 0)) from by have h := HBU12.out; exact h)
                    have HB14 := Lib.hid (store4_below hbw13 (g := w11.heap.size) hs11 (.string u2.name) (.int .u8 u2.kind) (.string u2.data) (.slice A7 u2.files.length c7))
                    have HU14 := Lib.hid (store4_box I.out.now.1 (.string u2.name) (.int .u8 u2.kind) (.string u2.data) (.slice A7 u2.files.length c7))
                    have HG14 := Lib.hid ((store4_other w13 (g := w11.heap.size) hgg (.string u2.name) (.int .u8 u2.kind) (.string u2.data) (.slice A7 u2.files.length c7)).trans I.out.now.2.2.2.2.2.2.2.2.2.1)
                    have HR14 := Lib.hid ((store4_other w13 (g := w11.heap.size) hgu (.string u2.name) (.int .u8 u2.kind) (.string u2.data) (.slice A7 u2.files.length c7)).trans HRQ13.out)
                    have HI14 := Lib.hid (HIV13.out.mv (w' := ((((w13.setCell ⟨w11.heap.size, 0, none⟩ (.string u2.name)).setCell ⟨w11.heap.size, 1, none⟩ (.int .u8 u2.kind)).setCell ⟨w11.heap.size, 2, none⟩ (.string u2.data)).setCell ⟨w11.heap.size, 3, none⟩ (.slice A7 u2.files.length c7))) fun k h1 _ => store4_other w13 (g := w11.heap.size) (by omega) (.string u2.name) (.int .u8 u2.kind) (.string u2.data) (.slice A7 u2.files.length c7))
                    have HZ14 : Hid (((((w13.setCell ⟨w11.heap.size, 0, none⟩ (.string u2.name)).setCell ⟨w11.heap.size, 1, none⟩ (.int .u8 u2.kind)).setCell ⟨w11.heap.size, 2, none⟩ (.string u2.data)).setCell ⟨w11.heap.size, 3, none⟩ (.slice A7 u2.files.length c7)).heap.size = w13.heap.size) := Lib.hid (by simp [World.setCell])
                    have zc0 := cell_of (j := 0) I.out.now.1 rfl
                    have zu0 := unfr I.out.now.1 0
                    have zc1 := cell_of (j := 1) I.out.now.1 rfl
                    have zu1 := unfr I.out.now.1 1
                    have zc2 := cell_of (j := 2) I.out.now.1 rfl
                    have zu2 := unfr I.out.now.1 2
                    have zc3 := cell_of (j := 3) I.out.now.1 rfl
                    have zu3 := unfr I.out.now.1 3
                    obtain ⟨W14, hW14⟩ : ∃ W, ((((w13.setCell ⟨w11.heap.size, 0, none⟩ (.string u2.name)).setCell ⟨w11.heap.size, 1, none⟩ (.int .u8 u2.kind)).setCell ⟨w11.heap.size, 2, none⟩ (.string u2.data)).setCell ⟨w11.heap.size, 3, none⟩ (.slice A7 u2.files.length c7)) = W := ⟨_, rfl⟩
                    rw [hW14] at HB14 HU14 HG14 HR14 HI14 HZ14
                    by_cases hk4 : k4 = 0
                    rotate_left
                    · skip
                      have HR8 := HR7.out
                      rw [if_neg hk4] at HR8
                      replace HR8 := Lib.hid HR8
                      have k4a : (k4 == 0) = false := beq_eq_false_iff_ne.2 hk4
                      clear hk4
                      go_wp2_with fail
                      go_ret
                      rw [← HR8.out]
                      have HF14 := HFS0.out.below HB14.out
                      exact ⟨rfl, HF14.mono (fun k h => .inl h) (fun k h => h.elim (fun h => HF14.lts k h) fun h => h.2), HR14.out, Only.of_belowV HB14.out _⟩
                    · skip
                      subst hk4
                      have HR8 := HR7.out
                      rw [if_pos rfl] at HR8
                      replace HR8 := Lib.hid HR8
                      have lu0 := cell_of (j := 0) HU14.out rfl
                      have lu1 := cell_of (j := 1) HU14.out rfl
                      have lu2 := cell_of (j := 2) HU14.out rfl
                      have lu3 := cell_of (j := 3) HU14.out rfl
                      have zg0 := cell_of (j := 0) HG14.out rfl
                      have ug0 := unfr HG14.out 0
                      have zg1 := cell_of (j := 1) HG14.out rfl
                      have ug1 := unfr HG14.out 1
                      have zg2 := cell_of (j := 2) HG14.out rfl
                      have ug2 := unfr HG14.out 2
                      have zg3 := cell_of (j := 3) HG14.out rfl
                      have ug3 := unfr HG14.out 3
                      go_wp2_with fail
                      go_ret
                      rw [← HR8.out]
                      have hsz : ((((W14.setCell ⟨g, 0, none⟩ (.string u2.name)).setCell ⟨g, 1, none⟩ (.int .u8 u2.kind)).setCell ⟨g, 2, none⟩ (.string u2.data)).setCell ⟨g, 3, none⟩ (.slice A7 u2.files.length c7)).heap.size = W14.heap.size := by simp [World.setCell]
                      have hz14 := HZ14.out
                      have hb14 := HB14.out
                      have hs13' := hq13.size
                      obtain ⟨hle, hiv, hsep, htr, htb, hfl, hOm, hOlt⟩ := HFSK.out
                      have htr6 := Kd.R_below htr hb14
                      have htrn := Kd.R_types htr6 HG14.out (by decide)
                      have hflm := hfl.lt
                      have hmg := (hfl.mv (hb14.block m hflm)).ne HG14.out
                      have htbl : ∀ k, tb = some k → k < w.heap.size := fun k e => hOlt k (((Kd.R_bound htr).1 k (htb.trans e)).1)
                      refine ⟨rfl, ⟨A7, c7, v, m, W12.heap.size, w13.heap.size, store4_box6 HG14.out _ _ _ _, hc7, HI14.out.mv fun k h1 h2 => store4_other W14 (g := g) (by omega) _ _ _ _, fun k h1 h2 => ⟨.inr ⟨by omega, by omega⟩, by omega, fun e => by have := htbl k e; omega⟩, Kd.R_mono (Kd.R_step htrn fun k hk _ => store4_other W14 (g := g) hk.2 _ _ _ _) (fun k hk => .inl hk.1), htb, hfl.mv ((store4_other W14 (g := g) hmg _ _ _ _).trans (hb14.block m hflm)), .inl hOm, fun k h => h.elim (fun h => by have := hOlt k h; omega) fun h => h.2⟩, (store4_other W14 (g := g) hrg _ _ _ _).trans HR14.out, ?_⟩
                      exact (Only.of_belowV hb14 (fun k => k = g ∨ k = r)).trans (only4 W14 g _ _ _ _) (fun _ _ h => h) (fun _ _ h => .inl h)
              · skip
                by_cases hz : z.kind = 1
                · skip
                  have HR5 := HR4.out
                  rw [if_pos ⟨rfl, hz⟩] at HR5
                  replace HR5 := Lib.hid HR5
                  have k2z : (z.kind == 1) = true := beq_iff_eq.2 hz
                  clear hz
                  have lz0 := cell_of (j := 0) I.out.now.2.2.2.1 rfl
                  have lz1 := cell_of (j := 1) I.out.now.2.2.2.1 rfl
                  have lz2 := cell_of (j := 2) I.out.now.2.2.2.1 rfl
                  have lz3 := cell_of (j := 3) I.out.now.2.2.2.1 rfl
                  go_wp2_with fail
                  go_ret
                  rw [← HR5.out]
                  exact ⟨rfl, HFS9.out.mono (fun k h => .inl h) (fun k h => h.elim (fun h => HFS9.out.lts k h) fun h => h.2), HRQ9.out, Only.of_belowV hbw9 _⟩
                · skip
                  have HR5 := HR4.out
                  rw [if_neg (fun h => hz h.2)] at HR5
                  replace HR5 := Lib.hid HR5
                  have k2z : (z.kind == 1) = false := beq_eq_false_iff_ne.2 hz
                  clear hz
                  have lz0 := cell_of (j := 0) I.out.now.2.2.2.1 rfl
                  have lz1 := cell_of (j := 1) I.out.now.2.2.2.1 rfl
                  have lz2 := cell_of (j := 2) I.out.now.2.2.2.1 rfl
                  have lz3 := cell_of (j := 3) I.out.now.2.2.2.1 rfl
                  go_wp2_with fail
                  refine (show Calls Tryd.prog 85 #[.slice B q.length d, .slice B2 q2.length d2] W9 _ from eqP_below B d q B2 d2 q2 W9 I.out.now.2.2.1 hd I.out.now.2.1 hd2 (by omega)).mono ?_
                  rw [HBB.out]
                  rintro e w10 ⟨rfl, hq10⟩
                  replace I := Lib.hid (Hd.mv I.out hq10)
                  have hbw10 := I.out.now.2.2.2.2.2.2.2.2.2
                  have HFS10 := Lib.hid (HFS0.out.below hbw10)
                  have hs10 := hbw10.size
                  have HRQ10 := Lib.hid I.out.now.2.2.2.2.2.2.2.1
                  cases bb
                  rotate_left
                  · skip
                    have HR6 := HR5.out
                    rw [if_pos (of_decide_eq_true HBB.out)] at HR6
                    replace HR6 := Lib.hid HR6
                    go_wp2_with fail
                    go_ret
                    rw [← HR6.out]
                    exact ⟨rfl, HFS10.out.mono (fun k h => .inl h) (fun k h => h.elim (fun h => HFS10.out.lts k h) fun h => h.2), HRQ10.out, Only.of_belowV hbw10 _⟩
                  · skip
                    have HR6 := HR5.out
                    rw [if_neg (of_decide_eq_false HBB.out)] at HR6
                    replace HR6 := Lib.hid HR6
                    obtain ⟨⟨u, k3⟩, hu3⟩ : ∃ r, dropA f.tree q = r := ⟨_, rfl⟩
                    rw [hu3] at HR6
                    have HU3 := Lib.hid hu3
                    clear hu3
                    have hub := dropA_bulk f.tree q
                    rw [HU3.out] at hub
                    simp only at hub HR6
                    have lg0 := cell_of (j := 0) I.out.now.2.2.2.2.2.2.2.2.1 rfl
                    have lg1 := cell_of (j := 1) I.out.now.2.2.2.2.2.2.2.2.1 rfl
                    have lg2 := cell_of (j := 2) I.out.now.2.2.2.2.2.2.2.2.1 rfl
                    have lg3 := cell_of (j := 3) I.out.now.2.2.2.2.2.2.2.2.1 rfl
                    have lg4 := cell_of (j := 4) I.out.now.2.2.2.2.2.2.2.2.1 rfl
                    have lg5 := cell_of (j := 5) I.out.now.2.2.2.2.2.2.2.2.1 rfl
                    go_wp2_with fail
                    clear lg0 lg1 lg2 lg3 lg4 lg5
                    refine (show Calls Tryd.prog 86 #[.agg #[.string f.tree.name, .int .u8 f.tree.kind, .string f.tree.data, .slice A f.tree.files.length c], .slice B q.length d] w10 _ from dropS f.tree A c B d q w10 (HS.out _ hbw10) hle (by omega) I.out.now.2.2.1 hd (by omega)).mono ?_
                    rw [HU3.out]
                    rintro e w11 ⟨⟨A6, c6, rfl, hc6, hC6⟩, hq11⟩
                    replace I := Lib.hid (Hd.mv I.out hq11)
                    have hbw11 := I.out.now.2.2.2.2.2.2.2.2.2
                    have HFS11 := Lib.hid (HFS0.out.below hbw11)
                    have hs11 := hbw11.size
                    have HRQ11 := Lib.hid I.out.now.2.2.2.2.2.2.2.1
                    have HIV11 := Lib.hid (show Iv w10.heap.size w11.heap.size w11 (fun W => FileK.C W A6 u.files.length u.files) from hC6)
                    clear hC6
                    by_cases hk3 : k3 = 0
                    rotate_left
                    · skip
                      have HR7 := HR6.out
                      rw [if_neg hk3] at HR7
                      replace HR7 := Lib.hid HR7
                      have k3a : (k3 != 0) = true := by rw [bne_iff_ne]; exact hk3
                      clear hk3
                      go_wp2_with fail
                      have hq12 := below_alloc (Below.refl w11.heap.size w11) (.cells #[.string u.name, .int .u8 u.kind, .string u.data, .slice A6 u.files.length c6] 25)
                      replace I := Lib.hid (Hd.mv I.out hq12)
                      replace I := Lib.hid (Hd.and I.out (Hd.box (blk_new w11 (.cells #[.string u.name, .int .u8 u.kind, .string u.data, .slice A6 u.files.length c6] 25))))
                      have hbw12 := I.out.now.2.2.2.2.2.2.2.2.2.2
                      have HFS12 := Lib.hid (HFS0.out.below hbw12)
                      have hs12 := hbw12.size
                      have HRQ12 := Lib.hid I.out.now.2.2.2.2.2.2.2.2.1
                      go_ret
                      rw [← HR7.out]
                      exact ⟨rfl, HFS12.out.mono (fun k h => .inl h) (fun k h => h.elim (fun h => HFS12.out.lts k h) fun h => h.2), HRQ12.out, Only.of_belowV hbw12 _⟩
                    · skip
                      subst hk3
                      have HR7 := HR6.out
                      rw [if_pos rfl] at HR7
                      replace HR7 := Lib.hid HR7
                      have hq12 := below_alloc (Below.refl w11.heap.size w11) (.cells #[.string u.name, .int .u8 u.kind, .string u.data, .slice A6 u.files.length c6] 25)
                      replace I := Lib.hid (Hd.mv I.out hq12)
                      replace I := Lib.hid (Hd.and I.out (Hd.box (blk_new w11 (.cells #[.string u.name, .int .u8 u.kind, .string u.data, .slice A6 u.files.length c6] 25))))
                      have hbw12 := I.out.now.2.2.2.2.2.2.2.2.2.2
                      have HFS12 := Lib.hid (HFS0.out.below hbw12)
                      have hs12 := hbw12.size
                      have HRQ12 := Lib.hid I.out.now.2.2.2.2.2.2.2.2.1
                      have HBU12 := Lib.hid I.out.now.1
                      have lu0 := cell_of (j := 0) I.out.now.1 rfl
                      have lu1 := cell_of (j := 1) I.out.now.1 rfl
                      have lu2 := cell_of (j := 2) I.out.now.1 rfl
                      have lu3 := cell_of (j := 3) I.out.now.1 rfl
                      have ly0 := cell_of (j := 0) I.out.now.2.2.2.2.2.1 rfl
                      have ly1 := cell_of (j := 1) I.out.now.2.2.2.2.2.1 rfl
                      have ly2 := cell_of (j := 2) I.out.now.2.2.2.2.2.1 rfl
                      have ly3 := cell_of (j := 3) I.out.now.2.2.2.2.2.1 rfl
                      go_wp2_with fail
                      clear lu0 lu1 lu2 lu3 ly0 ly1 ly2 ly3
                      generalize (w11.alloc (.cells #[.string u.name, .int .u8 u.kind, .string u.data, .slice A6 u.files.length c6] 25)) = W12 at *
                      obtain ⟨⟨u2, k4⟩, hu4⟩ : ∃ r, putA u q2 y = r := ⟨_, rfl⟩
                      rw [hu4] at HR7
                      simp only at HR7
                      have HU4 := Lib.hid hu4
                      clear hu4
                      have hs12b := hbw12.size
                      refine (show Calls Tryd.prog 87 #[.agg #[.string u.name, .int .u8 u.kind, .string u.data, .slice A6 u.files.length c6], .slice B2 q2.length d2, .agg #[.string y.name, .int .u8 y.kind, .string y.data, .slice A4 y.files.length c4]] W12 _ from putS u y A6 A4 c6 c4 B2 d2 q2 W12 (HIV11.out.mv fun k _ h2 => hq12.block k h2).now hc6 (by omega) I.out.now.2.2.1 hd2 (by omega) I.out.now.2.1 hc4 (by omega) HQN.out).mono ?_
                      rw [HU4.out]
                      rintro e w13 ⟨⟨A7, c7, rfl, hc7, hC7⟩, hq13⟩
                      replace I := Lib.hid (Hd.mv I.out hq13)
                      have hbw13 := I.out.now.2.2.2.2.2.2.2.2.2.2
                      have HFS13 := Lib.hid (HFS0.out.below hbw13)
                      have hs13 := hbw13.size
                      have HRQ13 := Lib.hid I.out.now.2.2.2.2.2.2.2.2.1
                      have HIV13 := Lib.hid (show Iv W12.heap.size w13.heap.size w13 (fun W => FileK.C W A7 u2.files.length u2.files) from hC7)
                      clear hC7
                      have hgu : r ≠ w11.heap.size := by omega
                      have hgg : g ≠ w11.heap.size := by omega
                      have hgl12 : w11.heap.size < W12.heap.size := blk_lt (show W12.heap[w11.heap.size]? = some (.cells #[.string u.name, .int .u8 u.kind, .string u.data, .slice A6 u.files.length c6] 25 (0, 0)) from by have h := HBU12.out; exact h)
                      have HB14 := Lib.hid (store4_below hbw13 (g := w11.heap.size) hs11 (.string u2.name) (.int .u8 u2.kind) (.string u2.data) (.slice A7 u2.files.length c7))
                      have HU14 := Lib.hid (store4_box I.out.now.1 (.string u2.name) (.int .u8 u2.kind) (.string u2.data) (.slice A7 u2.files.length c7))
                      have HG14 := Lib.hid ((store4_other w13 (g := w11.heap.size) hgg (.string u2.name) (.int .u8 u2.kind) (.string u2.data) (.slice A7 u2.files.length c7)).trans I.out.now.2.2.2.2.2.2.2.2.2.1)
                      have HR14 := Lib.hid ((store4_other w13 (g := w11.heap.size) hgu (.string u2.name) (.int .u8 u2.kind) (.string u2.data) (.slice A7 u2.files.length c7)).trans HRQ13.out)
                      have HI14 := Lib.hid (HIV13.out.mv (w' := ((((w13.setCell ⟨w11.heap.size, 0, none⟩ (.string u2.name)).setCell ⟨w11.heap.size, 1, none⟩ (.int .u8 u2.kind)).setCell ⟨w11.heap.size, 2, none⟩ (.string u2.data)).setCell ⟨w11.heap.size, 3, none⟩ (.slice A7 u2.files.length c7))) fun k h1 _ => store4_other w13 (g := w11.heap.size) (by omega) (.string u2.name) (.int .u8 u2.kind) (.string u2.data) (.slice A7 u2.files.length c7))
                      have HZ14 : Hid (((((w13.setCell ⟨w11.heap.size, 0, none⟩ (.string u2.name)).setCell ⟨w11.heap.size, 1, none⟩ (.int .u8 u2.kind)).setCell ⟨w11.heap.size, 2, none⟩ (.string u2.data)).setCell ⟨w11.heap.size, 3, none⟩ (.slice A7 u2.files.length c7)).heap.size = w13.heap.size) := Lib.hid (by simp [World.setCell])
                      have zc0 := cell_of (j := 0) I.out.now.1 rfl
                      have zu0 := unfr I.out.now.1 0
                      have zc1 := cell_of (j := 1) I.out.now.1 rfl
                      have zu1 := unfr I.out.now.1 1
                      have zc2 := cell_of (j := 2) I.out.now.1 rfl
                      have zu2 := unfr I.out.now.1 2
                      have zc3 := cell_of (j := 3) I.out.now.1 rfl
                      have zu3 := unfr I.out.now.1 3
                      obtain ⟨W14, hW14⟩ : ∃ W, ((((w13.setCell ⟨w11.heap.size, 0, none⟩ (.string u2.name)).setCell ⟨w11.heap.size, 1, none⟩ (.int .u8 u2.kind)).setCell ⟨w11.heap.size, 2, none⟩ (.string u2.data)).setCell ⟨w11.heap.size, 3, none⟩ (.slice A7 u2.files.length c7)) = W := ⟨_, rfl⟩
                      rw [hW14] at HB14 HU14 HG14 HR14 HI14 HZ14
                      by_cases hk4 : k4 = 0
                      rotate_left
                      · skip
                        have HR8 := HR7.out
                        rw [if_neg hk4] at HR8
                        replace HR8 := Lib.hid HR8
                        have k4a : (k4 == 0) = false := beq_eq_false_iff_ne.2 hk4
                        clear hk4
                        go_wp2_with fail
                        go_ret
                        rw [← HR8.out]
                        have HF14 := HFS0.out.below HB14.out
                        exact ⟨rfl, HF14.mono (fun k h => .inl h) (fun k h => h.elim (fun h => HF14.lts k h) fun h => h.2), HR14.out, Only.of_belowV HB14.out _⟩
                      · skip
                        subst hk4
                        have HR8 := HR7.out
                        rw [if_pos rfl] at HR8
                        replace HR8 := Lib.hid HR8
                        have lu0 := cell_of (j := 0) HU14.out rfl
                        have lu1 := cell_of (j := 1) HU14.out rfl
                        have lu2 := cell_of (j := 2) HU14.out rfl
                        have lu3 := cell_of (j := 3) HU14.out rfl
                        have zg0 := cell_of (j := 0) HG14.out rfl
                        have ug0 := unfr HG14.out 0
                        have zg1 := cell_of (j := 1) HG14.out rfl
                        have ug1 := unfr HG14.out 1
                        have zg2 := cell_of (j := 2) HG14.out rfl
                        have ug2 := unfr HG14.out 2
                        have zg3 := cell_of (j := 3) HG14.out rfl
                        have ug3 := unfr HG14.out 3
                        go_wp2_with fail
                        go_ret
                        rw [← HR8.out]
                        have hsz : ((((W14.setCell ⟨g, 0, none⟩ (.string u2.name)).setCell ⟨g, 1, none⟩ (.int .u8 u2.kind)).setCell ⟨g, 2, none⟩ (.string u2.data)).setCell ⟨g, 3, none⟩ (.slice A7 u2.files.length c7)).heap.size = W14.heap.size := by simp [World.setCell]
                        have hz14 := HZ14.out
                        have hb14 := HB14.out
                        have hs13' := hq13.size
                        obtain ⟨hle, hiv, hsep, htr, htb, hfl, hOm, hOlt⟩ := HFSK.out
                        have htr6 := Kd.R_below htr hb14
                        have htrn := Kd.R_types htr6 HG14.out (by decide)
                        have hflm := hfl.lt
                        have hmg := (hfl.mv (hb14.block m hflm)).ne HG14.out
                        have htbl : ∀ k, tb = some k → k < w.heap.size := fun k e => hOlt k (((Kd.R_bound htr).1 k (htb.trans e)).1)
                        refine ⟨rfl, ⟨A7, c7, v, m, W12.heap.size, w13.heap.size, store4_box6 HG14.out _ _ _ _, hc7, HI14.out.mv fun k h1 h2 => store4_other W14 (g := g) (by omega) _ _ _ _, fun k h1 h2 => ⟨.inr ⟨by omega, by omega⟩, by omega, fun e => by have := htbl k e; omega⟩, Kd.R_mono (Kd.R_step htrn fun k hk _ => store4_other W14 (g := g) hk.2 _ _ _ _) (fun k hk => .inl hk.1), htb, hfl.mv ((store4_other W14 (g := g) hmg _ _ _ _).trans (hb14.block m hflm)), .inl hOm, fun k h => h.elim (fun h => by have := hOlt k h; omega) fun h => h.2⟩, (store4_other W14 (g := g) hrg _ _ _ _).trans HR14.out, ?_⟩
                        exact (Only.of_belowV hb14 (fun k => k = g ∨ k = r)).trans (only4 W14 g _ _ _ _) (fun _ _ h => h) (fun _ _ h => .inl h)
end Go.Proofs.YthlcjjhfkldmhaaDoor.G
