/- (*vfs.Fs).create. Printed by wip/tools/gen_vops.py. -/
import Derived.Test.YthlcjjhfkldmhaaDoorVPlain
set_option linter.unusedVariables false
set_option linter.unusedSimpArgs false
namespace Go.Proofs.YthlcjjhfkldmhaaDoor.G
open Go.RowKit Go.Lib Go.Proofs.YthlcjjhfkldmhaaDoorW.PrintWords Go.Proofs.YthlcjjhfkldmhaaDoorW.PrintLast
set_option linter.unusedVariables false
set_option linter.unusedSimpArgs false

set_option maxHeartbeats 8000000 in
set_option maxRecDepth 100000 in
theorem create_fs (w : World) (g r : Nat) (O : Nat → Prop) (tb : Option Nat) (f : FsV) (x : Req) (Ap : Option Addr) (cp : Nat) (Ad : Option Addr) (cd : Nat) (hfs : FsAt w g O tb f) (hreq : w.heap[r]? = some (.cells #[.slice Ap x.p.length cp, .slice Ad x.dest.length cd, .string x.data, .int .u8 0, .int .i64 0] 94 (0, 0))) (hrg : r ≠ g) (hrO : ¬ O r) (hbt : f.tree.bulk ≤ 100000000) (hp : Kd.C Kd.string w Ap x.p.length x.p) (hcp : x.p.length ≤ cp) (hps : P.sumP x.p ≤ 1024) (hdb : x.data.size ≤ 100000000) :
    Calls Tryd.prog 75 #[.pointer (some ⟨g, 0, none⟩), .pointer (some ⟨r, 0, none⟩)] w fun e w' => OpPost w g r O tb f x Ap cp Ad cd (createR f.tree x) e w' := by
  have HFS0 := Lib.hid hfs
  obtain ⟨A, c, v, m, lo, hi, hbox, hle, hiv, hsep, htr, htb, hfl, hOm, hOlt⟩ := hfs
  unfold fsCells at hbox
  have hgl := blk_lt hbox
  have hrl := blk_lt hreq
  have HS := Lib.hid (fun W (h : Below w.heap.size w W) => hiv W fun k h1 h2 => h.block k (hOlt k (hsep k h1 h2).1))
  have hlen := P.sumP_len x.p
  have hb0 := Below.refl w.heap.size w
  have I := Lib.hid (Hd.base hb0 (by first | exact Nat.le_refl _ | exact Below.size hb0))
  replace I := Lib.hid (Hd.and I.out (Hd.box hbox))
  replace I := Lib.hid (Hd.and I.out (Hd.box hreq))
  replace I := Lib.hid (Hd.and I.out (Hd.reads (hp)))
  obtain ⟨⟨q, y, is, k⟩, hu⟩ : ∃ r, walkR f.tree x.p true = r := ⟨_, rfl⟩
  have HU := Lib.hid hu
  have HRES := Lib.hid (show createR f.tree x = createR f.tree x from rfl)
  obtain ⟨res, hres⟩ : ∃ r, createR f.tree x = r := ⟨_, rfl⟩
  have HR := Lib.hid (show _ = res from hres)
  rw [hres]
  clear hu hres HRES hiv hsep htr hfl hOm hOlt hp hbox htb hreq
  go_enter Tryd.func75, Tryd.ntmps75
  go_wp2_with fail
  refine start_ (n := 19) (S := fun w' => w'.heap[g]? = some (.cells #[.string f.tree.name, .int .u8 f.tree.kind, .string f.tree.data, .slice A f.tree.files.length c, v, .map (some m)] 86 (0, 0)) ∧ w'.heap[r]? = some (.cells #[.slice Ap x.p.length cp, .slice Ad x.dest.length cd, .string x.data, .int .u8 0, .int .i64 0] 94 (0, 0))) (ds := [16]) (bq 19 0) (by kernel_rfl) rfl rfl ⟨(I.out _ (bdrew (Below.refl w.heap.size w))).2.2.1, (I.out _ (bdrew (Below.refl w.heap.size w))).2.1⟩ (fun hHeld => ?_)
  refine pure_ (i := 0) (N := some 10) (v := ?_) (a' := ?_) (bq 19 1) rfl rfl (by kernel_rfl) (fun _ _ _ h => h) (Or.inl ⟨by rfl, ?_⟩) ?_ ?_
  rotate_left
  · intro w'
    go_simp
    with_reducible rfl
  rotate_left
  · simp only [Act.put, List.setIfInBounds_toArray, List.set_cons_zero, List.set_cons_succ, i64_w, i32_w]
    rfl
  refine pure_ (i := 1) (N := some 11) (v := ?_) (a' := ?_) (bq 19 3) rfl rfl (by kernel_rfl) (fun _ _ _ h => h) (Or.inl ⟨by rfl, ?_⟩) ?_ ?_
  rotate_left
  · intro w'
    go_simp
    with_reducible rfl
  rotate_left
  · simp only [Act.put, List.setIfInBounds_toArray, List.set_cons_zero, List.set_cons_succ, i64_w, i32_w]
    rfl
  refine pure_ (i := 2) (N := some 12) (v := ?_) (a' := ?_) (bq 19 7) rfl rfl (by kernel_rfl) (fun _ _ _ h => h) (Or.inl ⟨by rfl, ?_⟩) ?_ ?_
  rotate_left
  · intro w'
    go_simp
    with_reducible rfl
  rotate_left
  · simp only [Act.put, List.setIfInBounds_toArray, List.set_cons_zero, List.set_cons_succ, i64_w, i32_w]
    rfl
  refine pure_ (i := 4) (N := some 14) (v := ?_) (a' := ?_) (bq 19 23) rfl rfl (by kernel_rfl) (fun _ _ _ h => h) (Or.inl ⟨by rfl, ?_⟩) ?_ ?_
  rotate_left
  · intro w'
    go_simp
    with_reducible rfl
  rotate_left
  · simp only [Act.put, List.setIfInBounds_toArray, List.set_cons_zero, List.set_cons_succ, i64_w, i32_w]
    rfl
  refine pure_ (i := 5) (N := some 15) (v := ?_) (a' := ?_) (bq 19 55) rfl rfl (by kernel_rfl) (fun _ _ _ h => h) (Or.inl ⟨by rfl, ?_⟩) ?_ ?_
  rotate_left
  · intro w'
    go_simp
    with_reducible rfl
  rotate_left
  · simp only [Act.put, List.setIfInBounds_toArray, List.set_cons_zero, List.set_cons_succ, i64_w, i32_w]
    rfl
  refine pure_ (i := 6) (N := some 16) (v := ?_) (a' := ?_) (bq 19 119) rfl rfl (by kernel_rfl) (fun _ _ _ h => h) (Or.inl ⟨by rfl, ?_⟩) ?_ ?_
  rotate_left
  · intro w'
    go_simp
    with_reducible rfl
  rotate_left
  · simp only [Act.put, List.setIfInBounds_toArray, List.set_cons_zero, List.set_cons_succ, i64_w, i32_w]
    rfl
  refine take_ (i := 3) (N := some 13) (v := ?_) (a' := ?_) (bq 19 127) rfl rfl (by kernel_rfl) (fun _ _ _ h => h) (Or.inl ⟨by rfl, ?_⟩) hHeld ?_ ?_
  rotate_left
  · rintro w' ⟨s0, s1⟩
    have q0 := cell_of (j := 0) s0 rfl
    have q1 := cell_of (j := 1) s0 rfl
    have q2 := cell_of (j := 2) s0 rfl
    have q3 := cell_of (j := 3) s0 rfl
    have q4 := cell_of (j := 4) s0 rfl
    have q5 := cell_of (j := 5) s0 rfl
    go_simp
    with_reducible rfl
  rotate_left
  · simp only [Act.put, List.setIfInBounds_toArray, List.set_cons_zero, List.set_cons_succ, i64_w, i32_w]
    rfl
  refine take_ (i := 7) (N := some 17) (v := ?_) (a' := ?_) (bq 19 255) rfl rfl (by kernel_rfl) (fun _ _ _ h => h) (Or.inl ⟨by rfl, ?_⟩) hHeld ?_ ?_
  rotate_left
  · rintro w' ⟨s0, s1⟩
    have q0 := cell_of (j := 0) s1 rfl
    have q1 := cell_of (j := 1) s1 rfl
    have q2 := cell_of (j := 2) s1 rfl
    have q3 := cell_of (j := 3) s1 rfl
    have q4 := cell_of (j := 4) s1 rfl
    go_simp
    with_reducible rfl
  rotate_left
  · simp only [Act.put, List.setIfInBounds_toArray, List.set_cons_zero, List.set_cons_succ, i64_w, i32_w]
    rfl
  refine join_ (σ := (Option Addr × Nat × Option Addr × Nat × Nat × Nat) × Nat) 4 (bq 19 32767) (fun s => match s with | ((B, d, A4, c4, lo1, hi1), gd) => [(18, .tuple #[.slice B q.length d, .agg #[.string y.name, .int .u8 y.kind, .string y.data, .slice A4 y.files.length c4], .bool is, .int .i64 k]), (9, .tuple #[.slice B q.length d, .agg #[.string y.name, .int .u8 y.kind, .string y.data, .slice A4 y.files.length c4], .bool is, .int .i64 k]), (19, .slice B q.length d), (20, .agg #[.string y.name, .int .u8 y.kind, .string y.data, .slice A4 y.files.length c4]), (21, .bool is), (22, .int .i64 k), (6, .pointer (some ⟨gd, 0, none⟩))]) (fun s W => match s with | ((B, d, A4, c4, lo1, hi1), gd) => Below w.heap.size w W ∧ w.heap.size ≤ gd ∧ W.heap[gd]? = some (.cells #[.string ⟨#[]⟩, .int .u8 0, .string ⟨#[]⟩, .slice none 0 0] 25 (0, 0)) ∧ q.length ≤ d ∧ Iv lo1 hi1 W (fun W => Kd.C Kd.string W B q.length q) ∧ w.heap.size ≤ lo1 ∧ hi1 ≤ W.heap.size ∧ (gd < lo1 ∨ hi1 ≤ gd) ∧ y.files.length ≤ c4 ∧ FileK.C w A4 y.files.length y.files) ?_ ?_
  rotate_left
  · intro hc
    refine two_ (i := 8) (j := 14) (Ni := some 18) (Nj := some 6) (bq 19 511) (bq 19 16639) rfl rfl rfl rfl (by kernel_rfl) (by decide) (by decide) (fun K hK => ?_) (fun K hK => ?_)
    · refine goes_ Tryd.func35 (by kernel_rfl) rfl #[.agg #[.string f.tree.name, .int .u8 f.tree.kind, .string f.tree.data, .slice A f.tree.files.length c], .slice Ap x.p.length cp, .bool true] (by rfl) rfl rfl (by simp only [List.map_toArray, List.map_cons, List.map_nil]; rfl) ?_
      refine ((show Calls Tryd.prog 35 #[.agg #[.string f.tree.name, .int .u8 f.tree.kind, .string f.tree.data, .slice A f.tree.files.length c], .slice Ap x.p.length cp, .bool true] _ _ from walk_calls f.tree A c Ap cp x.p true _ w ((bdrew (Below.refl w.heap.size w))) (HS.out w (Below.refl _ _)) hle (by omega) (I.out _ (bdrew (Below.refl w.heap.size w))).1 hcp (by omega) (by omega))).mono ?_
      rw [HU.out]
      rintro e w5 ⟨B, d, A4, c4, rfl, hd, hD, hc4, hC4, hq5⟩
      refine ⟨_, rfl, ?_⟩
      refine hK.out _ _ (⟨(I.out _ ((bdrew (Below.refl w.heap.size w)).trans hq5)).2.2.1, (I.out _ ((bdrew (Below.refl w.heap.size w)).trans hq5)).2.1⟩) (fun _ => ?_)
      refine norm_ (a' := ?_) ?_ ?_
      rotate_left
      · show Act.put _ (some 18) _ = _
        simp only [Act.put, List.setIfInBounds_toArray, List.set_cons_zero, List.set_cons_succ, i64_w, i32_w]
        rfl
      refine pure_ (i := 9) (N := some 9) (v := ?_) (a' := ?_) (bq 19 1023) rfl rfl (by kernel_rfl) (fun _ _ _ h => h) (Or.inl ⟨by rfl, ?_⟩) ?_ ?_
      rotate_left
      · intro w'
        go_simp
        with_reducible rfl
      rotate_left
      · simp only [Act.put, List.setIfInBounds_toArray, List.set_cons_zero, List.set_cons_succ, i64_w, i32_w]
        rfl
      refine pure_ (i := 10) (N := some 19) (v := ?_) (a' := ?_) (bq 19 2047) rfl rfl (by kernel_rfl) (fun _ _ _ h => h) (Or.inl ⟨by rfl, ?_⟩) ?_ ?_
      rotate_left
      · intro w'
        go_simp
        with_reducible rfl
      rotate_left
      · simp only [Act.put, List.setIfInBounds_toArray, List.set_cons_zero, List.set_cons_succ, i64_w, i32_w]
        rfl
      refine pure_ (i := 11) (N := some 20) (v := ?_) (a' := ?_) (bq 19 4095) rfl rfl (by kernel_rfl) (fun _ _ _ h => h) (Or.inl ⟨by rfl, ?_⟩) ?_ ?_
      rotate_left
      · intro w'
        go_simp
        with_reducible rfl
      rotate_left
      · simp only [Act.put, List.setIfInBounds_toArray, List.set_cons_zero, List.set_cons_succ, i64_w, i32_w]
        rfl
      refine pure_ (i := 12) (N := some 21) (v := ?_) (a' := ?_) (bq 19 8191) rfl rfl (by kernel_rfl) (fun _ _ _ h => h) (Or.inl ⟨by rfl, ?_⟩) ?_ ?_
      rotate_left
      · intro w'
        go_simp
        with_reducible rfl
      rotate_left
      · simp only [Act.put, List.setIfInBounds_toArray, List.set_cons_zero, List.set_cons_succ, i64_w, i32_w]
        rfl
      refine pure_ (i := 13) (N := some 22) (v := ?_) (a' := ?_) (bq 19 16383) rfl rfl (by kernel_rfl) (fun _ _ _ h => h) (Or.inl ⟨by rfl, ?_⟩) ?_ ?_
      rotate_left
      · intro w'
        go_simp
        with_reducible rfl
      rotate_left
      · simp only [Act.put, List.setIfInBounds_toArray, List.set_cons_zero, List.set_cons_succ, i64_w, i32_w]
        rfl
      refine one_ (i := 14) (N := some 6) (bq 19 32767) rfl rfl (by kernel_rfl) (by decide) (fun K hK => ?_)
      refine value_ (w1 := ?_) (v := ?_) (by rfl) rfl ?_ ?_
      rotate_left 2
      · go_simp
        constructor
        · rfl
        · rfl
      refine hK.out _ _ (⟨(I.out _ (below_alloc ((bdrew (Below.refl w.heap.size w)).trans hq5) _)).2.2.1, (I.out _ (below_alloc ((bdrew (Below.refl w.heap.size w)).trans hq5) _)).2.1⟩) (fun _ => ?_)
      refine norm_ (a' := _) ?_ (hc ((B, d, A4, c4, w.drew.heap.size, w5.heap.size), w5.heap.size) _ (⟨below_alloc ((bdrew (Below.refl w.heap.size w)).trans hq5) _, ((bdrew (Below.refl w.heap.size w)).trans hq5).size, blk_new w5 _, hd, Iv.mv hD fun k _ h2 => (below_alloc (Below.refl w5.heap.size w5) _).block k h2, (bdrew (Below.refl w.heap.size w)).size, (below_alloc (Below.refl w5.heap.size w5) _).size, .inr (Nat.le_refl _), hc4, hC4⟩))
      simp only [putAll, Act.put, List.setIfInBounds_toArray, List.set_cons_zero, List.set_cons_succ]
    · refine value_ (w1 := ?_) (v := ?_) (by rfl) rfl ?_ ?_
      rotate_left 2
      · go_simp
        constructor
        · rfl
        · rfl
      refine hK.out _ _ (⟨(I.out _ (below_alloc (bdrew (Below.refl w.heap.size w)) (.cells #[.string ⟨#[]⟩, .int .u8 0, .string ⟨#[]⟩, .slice none 0 0] 25))).2.2.1, (I.out _ (below_alloc (bdrew (Below.refl w.heap.size w)) (.cells #[.string ⟨#[]⟩, .int .u8 0, .string ⟨#[]⟩, .slice none 0 0] 25))).2.1⟩) (fun _ => ?_)
      refine norm_ (a' := ?_) ?_ ?_
      rotate_left
      · show Act.put _ (some 6) _ = _
        simp only [Act.put, List.setIfInBounds_toArray, List.set_cons_zero, List.set_cons_succ, i64_w, i32_w]
        rfl
      refine one_ (i := 8) (N := some 18) (bq 19 16895) rfl rfl (by kernel_rfl) (by decide) (fun K hK => ?_)
      refine goes_ Tryd.func35 (by kernel_rfl) rfl #[.agg #[.string f.tree.name, .int .u8 f.tree.kind, .string f.tree.data, .slice A f.tree.files.length c], .slice Ap x.p.length cp, .bool true] (by rfl) rfl rfl (by simp only [List.map_toArray, List.map_cons, List.map_nil]; rfl) ?_
      refine ((show Calls Tryd.prog 35 #[.agg #[.string f.tree.name, .int .u8 f.tree.kind, .string f.tree.data, .slice A f.tree.files.length c], .slice Ap x.p.length cp, .bool true] _ _ from walk_calls f.tree A c Ap cp x.p true _ w ((below_alloc (bdrew (Below.refl w.heap.size w)) (.cells #[.string ⟨#[]⟩, .int .u8 0, .string ⟨#[]⟩, .slice none 0 0] 25))) (HS.out w (Below.refl _ _)) hle (by omega) (I.out _ (below_alloc (bdrew (Below.refl w.heap.size w)) (.cells #[.string ⟨#[]⟩, .int .u8 0, .string ⟨#[]⟩, .slice none 0 0] 25))).1 hcp (by omega) (by omega))).mono ?_
      rw [HU.out]
      rintro e w5 ⟨B, d, A4, c4, rfl, hd, hD, hc4, hC4, hq5⟩
      refine ⟨_, rfl, ?_⟩
      refine hK.out _ _ (⟨(I.out _ ((below_alloc (bdrew (Below.refl w.heap.size w)) (.cells #[.string ⟨#[]⟩, .int .u8 0, .string ⟨#[]⟩, .slice none 0 0] 25)).trans (hq5.mono (below_alloc (Below.refl w.drew.heap.size w.drew) (.cells #[.string ⟨#[]⟩, .int .u8 0, .string ⟨#[]⟩, .slice none 0 0] 25)).size))).2.2.1, (I.out _ ((below_alloc (bdrew (Below.refl w.heap.size w)) (.cells #[.string ⟨#[]⟩, .int .u8 0, .string ⟨#[]⟩, .slice none 0 0] 25)).trans (hq5.mono (below_alloc (Below.refl w.drew.heap.size w.drew) (.cells #[.string ⟨#[]⟩, .int .u8 0, .string ⟨#[]⟩, .slice none 0 0] 25)).size))).2.1⟩) (fun _ => ?_)
      refine norm_ (a' := ?_) ?_ ?_
      rotate_left
      · show Act.put _ (some 18) _ = _
        simp only [Act.put, List.setIfInBounds_toArray, List.set_cons_zero, List.set_cons_succ, i64_w, i32_w]
        rfl
      refine pure_ (i := 9) (N := some 9) (v := ?_) (a' := ?_) (bq 19 17407) rfl rfl (by kernel_rfl) (fun _ _ _ h => h) (Or.inl ⟨by rfl, ?_⟩) ?_ ?_
      rotate_left
      · intro w'
        go_simp
        with_reducible rfl
      rotate_left
      · simp only [Act.put, List.setIfInBounds_toArray, List.set_cons_zero, List.set_cons_succ, i64_w, i32_w]
        rfl
      refine pure_ (i := 10) (N := some 19) (v := ?_) (a' := ?_) (bq 19 18431) rfl rfl (by kernel_rfl) (fun _ _ _ h => h) (Or.inl ⟨by rfl, ?_⟩) ?_ ?_
      rotate_left
      · intro w'
        go_simp
        with_reducible rfl
      rotate_left
      · simp only [Act.put, List.setIfInBounds_toArray, List.set_cons_zero, List.set_cons_succ, i64_w, i32_w]
        rfl
      refine pure_ (i := 11) (N := some 20) (v := ?_) (a' := ?_) (bq 19 20479) rfl rfl (by kernel_rfl) (fun _ _ _ h => h) (Or.inl ⟨by rfl, ?_⟩) ?_ ?_
      rotate_left
      · intro w'
        go_simp
        with_reducible rfl
      rotate_left
      · simp only [Act.put, List.setIfInBounds_toArray, List.set_cons_zero, List.set_cons_succ, i64_w, i32_w]
        rfl
      refine pure_ (i := 12) (N := some 21) (v := ?_) (a' := ?_) (bq 19 24575) rfl rfl (by kernel_rfl) (fun _ _ _ h => h) (Or.inl ⟨by rfl, ?_⟩) ?_ ?_
      rotate_left
      · intro w'
        go_simp
        with_reducible rfl
      rotate_left
      · simp only [Act.put, List.setIfInBounds_toArray, List.set_cons_zero, List.set_cons_succ, i64_w, i32_w]
        rfl
      refine pure_ (i := 13) (N := some 22) (v := ?_) (a' := ?_) (bq 19 32767) rfl rfl (by kernel_rfl) (fun _ _ _ h => h) (Or.inl ⟨by rfl, ?_⟩) ?_ ?_
      rotate_left
      · intro w'
        go_simp
        with_reducible rfl
      rotate_left
      · simp only [Act.put, List.setIfInBounds_toArray, List.set_cons_zero, List.set_cons_succ, i64_w, i32_w]
        rfl
      refine norm_ (a' := _) ?_ (hc ((B, d, A4, c4, (w.drew.alloc (.cells #[.string ⟨#[]⟩, .int .u8 0, .string ⟨#[]⟩, .slice none 0 0] 25)).heap.size, w5.heap.size), w.heap.size) _ (⟨((below_alloc (bdrew (Below.refl w.heap.size w)) (.cells #[.string ⟨#[]⟩, .int .u8 0, .string ⟨#[]⟩, .slice none 0 0] 25)).trans (hq5.mono (below_alloc (Below.refl w.drew.heap.size w.drew) (.cells #[.string ⟨#[]⟩, .int .u8 0, .string ⟨#[]⟩, .slice none 0 0] 25)).size)), Nat.le_refl _, (hq5.block _ (blk_lt (blk_new w.drew (.cells #[.string ⟨#[]⟩, .int .u8 0, .string ⟨#[]⟩, .slice none 0 0] 25)))).trans (blk_new w.drew (.cells #[.string ⟨#[]⟩, .int .u8 0, .string ⟨#[]⟩, .slice none 0 0] 25)), hd, hD, (below_alloc (bdrew (Below.refl w.heap.size w)) (.cells #[.string ⟨#[]⟩, .int .u8 0, .string ⟨#[]⟩, .slice none 0 0] 25)).size, Nat.le_refl _, .inl (blk_lt (blk_new w.drew (.cells #[.string ⟨#[]⟩, .int .u8 0, .string ⟨#[]⟩, .slice none 0 0] 25))), hc4, hC4⟩))
      simp only [putAll, Act.put, List.setIfInBounds_toArray, List.set_cons_zero, List.set_cons_succ]
  · rintro ⟨⟨B, d, A4, c4, lo1, hi1⟩, gd⟩ W hF
    refine norm_ (a' := ?_) ?_ ?_
    rotate_left
    · simp only [putAll, Act.put, List.setIfInBounds_toArray, List.set_cons_zero, List.set_cons_succ]
      rfl
    obtain ⟨hbW, hgd, hzz, hd, hD, hlo1, hhi1, hsp, hc4, hC4⟩ := hF
    have hHeld := (show W.heap[g]? = some (.cells #[.string f.tree.name, .int .u8 f.tree.kind, .string f.tree.data, .slice A f.tree.files.length c, v, .map (some m)] 86 (0, 0)) ∧ W.heap[r]? = some (.cells #[.slice Ap x.p.length cp, .slice Ad x.dest.length cd, .string x.data, .int .u8 0, .int .i64 0] 94 (0, 0)) from ⟨(I.out _ hbW).2.2.1, (I.out _ hbW).2.1⟩)
    refine pure_ (i := 15) (N := some 5) (v := ?_) (a' := ?_) (bq 19 65535) rfl rfl (by kernel_rfl) (fun _ _ _ h => h) (Or.inl ⟨by rfl, ?_⟩) ?_ ?_
    rotate_left
    · intro w'
      go_simp
      with_reducible rfl
    rotate_left
    · simp only [Act.put, List.setIfInBounds_toArray, List.set_cons_zero, List.set_cons_succ, i64_w, i32_w]
      rfl
    refine last_ (i := 16) (N := none) (bq 19 131071) rfl rfl (by kernel_rfl) (by decide) (fun K hK => ?_)
    have zc0 := cell_of (j := 0) hzz rfl
    have zu0 := unfr hzz 0
    have zc1 := cell_of (j := 1) hzz rfl
    have zu1 := unfr hzz 1
    have zc2 := cell_of (j := 2) hzz rfl
    have zu2 := unfr hzz 2
    have zc3 := cell_of (j := 3) hzz rfl
    have zu3 := unfr hzz 3
    refine skip_ (w1 := ?_) (by rfl) rfl ?_ ?_
    rotate_left
    · go_simp
      rfl
    refine hK.out _ _ ?_
    refine pure_ (i := 17) (N := some 7) (v := ?_) (a' := ?_) (bq 19 262143) rfl rfl (by kernel_rfl) (fun _ _ _ h => h) (Or.inl ⟨by rfl, ?_⟩) ?_ ?_
    rotate_left
    · intro w'
      go_simp
      with_reducible rfl
    rotate_left
    · simp only [Act.put, List.setIfInBounds_toArray, List.set_cons_zero, List.set_cons_succ, i64_w, i32_w]
      rfl
    refine pure_ (i := 18) (N := some 8) (v := ?_) (a' := ?_) (bq 19 524287) rfl rfl (by kernel_rfl) (fun _ _ _ h => h) (Or.inl ⟨by rfl, ?_⟩) ?_ ?_
    rotate_left
    · intro w'
      go_simp
      with_reducible rfl
    rotate_left
    · simp only [Act.put, List.setIfInBounds_toArray, List.set_cons_zero, List.set_cons_succ, i64_w, i32_w]
      rfl
    refine done_ (by kernel_rfl) ?_
    have hq6 := store4_below hbW (g := gd) hgd (.string y.name) (.int .u8 y.kind) (.string y.data) (.slice A4 y.files.length c4)
    have hd6 := store4_box hzz (.string y.name) (.int .u8 y.kind) (.string y.data) (.slice A4 y.files.length c4)
    replace I := Lib.hid (Hd.mv I.out hq6)
    replace I := Lib.hid (Hd.and I.out (Hd.box (hd6)))
    have hIV6 := Lib.hid (hD.mv (w' := ((((W.setCell ⟨gd, 0, none⟩ (.string y.name)).setCell ⟨gd, 1, none⟩ (.int .u8 y.kind)).setCell ⟨gd, 2, none⟩ (.string y.data)).setCell ⟨gd, 3, none⟩ (.slice A4 y.files.length c4))) fun k h1 h2 => store4_other W (g := gd) (by omega) _ _ _ _)
    have HCY := Lib.hid hC4
    have hsz6 : ((((W.setCell ⟨gd, 0, none⟩ (.string y.name)).setCell ⟨gd, 1, none⟩ (.int .u8 y.kind)).setCell ⟨gd, 2, none⟩ (.string y.data)).setCell ⟨gd, 3, none⟩ (.slice A4 y.files.length c4)).heap.size = W.heap.size := by simp [World.setCell]
    have hhi6 : hi1 ≤ ((((W.setCell ⟨gd, 0, none⟩ (.string y.name)).setCell ⟨gd, 1, none⟩ (.int .u8 y.kind)).setCell ⟨gd, 2, none⟩ (.string y.data)).setCell ⟨gd, 3, none⟩ (.slice A4 y.files.length c4)).heap.size := by omega
    clear zc0 zc1 zc2 zc3 zu0 zu1 zu2 zu3 hHeld hK hd6 hD hC4 hsz6 hzz hsp hhi1
    generalize ((((W.setCell ⟨gd, 0, none⟩ (.string y.name)).setCell ⟨gd, 1, none⟩ (.int .u8 y.kind)).setCell ⟨gd, 2, none⟩ (.string y.data)).setCell ⟨gd, 3, none⟩ (.slice A4 y.files.length c4)) = W6 at *
    have hbw6 := I.out.now.2.2.2.2
    have HFS6 := Lib.hid (HFS0.out.below hbw6)
    have hs6 := hbw6.size
    have HR1 := HR.out
    unfold createR at HR1
    rw [HU.out] at HR1
    simp only at HR1
    replace HR1 := Lib.hid HR1
    have HRQ := Lib.hid I.out.now.2.2.1
    clear HR
    by_cases hk : k = 0
    rotate_left
    · skip
      have HR2 := HR1.out
      rw [if_neg hk] at HR2
      replace HR2 := Lib.hid HR2
      have k1 : (k != 0) = true := by rw [bne_iff_ne]; exact hk
      have k1e : (k == 0) = false := beq_eq_false_iff_ne.2 hk
      clear hk
      go_wp2_with fail
      go_ret
      rw [← HR2.out]
      exact ⟨rfl, HFS6.out.mono (fun k h => .inl h) (fun k h => h.elim (fun h => HFS6.out.lts k h) fun h => h.2), HRQ.out, Only.of_belowV hbw6 _⟩
    · skip
      subst hk
      have HR2 := HR1.out
      rw [if_pos rfl] at HR2
      replace HR2 := Lib.hid HR2
      cases is
      · skip
        have HR4 := HR2.out
        rw [if_neg (fun h => absurd h.1 (by decide))] at HR4
        replace HR4 := Lib.hid HR4
        have hqs := walk_sum f.tree x.p true
        have hyb := walk_bulk f.tree x.p true
        rw [HU.out] at hqs hyb
        simp only at hqs hyb
        have hql := P.sumP_len q
        have HQN : Hid (∀ n ∈ q, n.size ≤ 1000000000) := Lib.hid fun n hn => by have := sumP_in hn; omega
        have hyd := bulk_eq y
        have HTB : Hid ((textF ⟨#[]⟩).bulk ≤ 1000000000) := Lib.hid (by
          rw [textF_bulk]
          have h1 : (⟨#[]⟩ : ByteArray).size = 0 := rfl
          omega)
        have HFSM := Lib.hid (show FsAt W6 g (fun k => O k ∨ w.heap.size ≤ k ∧ k < W6.heap.size) tb f from HFS6.out.mono (fun k h => .inl h) (fun k h => h.elim (fun h => HFS6.out.lts k h) fun h => h.2))
        have hhq : hi1 ≤ W6.heap.size := hhi6
        have HYX : Hid (¬ 9223372036854775807 < y.data.size + x.data.size) := Lib.hid (by omega)
        clear hyd
        go_wp2_with fail
        refine (show Calls Tryd.prog 84 #[.pointer (some ⟨g, 0, none⟩), .slice B q.length d, .agg #[.string ⟨#[]⟩, .int .u8 2, .string ⟨#[]⟩, .slice none 0 0]] _ _ from put_calls_fs _ g (fun k => O k ∨ w.heap.size ≤ k ∧ k < W6.heap.size) tb f B d q (textF ⟨#[]⟩) none 0 ((HFSM.out).below (Below.refl W6.heap.size W6)) (by omega) (hIV6.out.mv fun k _ h2 => ((Below.refl W6.heap.size W6)).block k (by omega)).now hd (by omega) HQN.out (Kd.C_nil FileK _) (Nat.le_refl _) HTB.out).mono ?_
        rintro e w9 ⟨rfl, hfs9, ho9⟩
        have hr9 := ho9.block r (Nat.lt_of_lt_of_le hrl hs6) hrg
        go_wp2_with fail
        go_ret
        rw [← HR4.out]
        have ho6 : Only (fun k => k = g) W6 w9 := ⟨ho9.os, ho9.tape, ho9.output, ho9.size, ho9.block⟩
        have hs9 := ho6.size
        exact ⟨rfl, hfs9.mono (fun k h => h.elim (fun h => h.elim .inl fun h => .inr ⟨h.1, by omega⟩) fun h => .inr ⟨Nat.le_trans hs6 h.1, h.2⟩) (fun k h => h.elim (fun h => Nat.lt_of_lt_of_le (HFS6.out.lts k h) hs9) fun h => h.2), hr9.trans HRQ.out, (Only.of_belowV hbw6 (fun k => k = g ∨ k = r)).trans ho6 (fun _ _ h => h) (fun _ _ h => .inl h)⟩
      · skip
        by_cases hy : y.kind = 1
        · skip
          have HR4 := HR2.out
          rw [if_pos ⟨rfl, hy⟩] at HR4
          replace HR4 := Lib.hid HR4
          have k2 : (y.kind == 1) = true := beq_iff_eq.2 hy
          clear hy
          have ly0 := cell_of (j := 0) I.out.now.1 rfl
          have ly1 := cell_of (j := 1) I.out.now.1 rfl
          have ly2 := cell_of (j := 2) I.out.now.1 rfl
          have ly3 := cell_of (j := 3) I.out.now.1 rfl
          go_wp2_with fail
          go_ret
          rw [← HR4.out]
          exact ⟨rfl, HFS6.out.mono (fun k h => .inl h) (fun k h => h.elim (fun h => HFS6.out.lts k h) fun h => h.2), HRQ.out, Only.of_belowV hbw6 _⟩
        · skip
          have HR4 := HR2.out
          rw [if_neg (fun h => hy h.2)] at HR4
          replace HR4 := Lib.hid HR4
          have k2 : (y.kind == 1) = false := beq_eq_false_iff_ne.2 hy
          clear hy
          have ly0 := cell_of (j := 0) I.out.now.1 rfl
          have ly1 := cell_of (j := 1) I.out.now.1 rfl
          have ly2 := cell_of (j := 2) I.out.now.1 rfl
          have ly3 := cell_of (j := 3) I.out.now.1 rfl
          have hqs := walk_sum f.tree x.p true
          have hyb := walk_bulk f.tree x.p true
          rw [HU.out] at hqs hyb
          simp only at hqs hyb
          have hql := P.sumP_len q
          have HQN : Hid (∀ n ∈ q, n.size ≤ 1000000000) := Lib.hid fun n hn => by have := sumP_in hn; omega
          have hyd := bulk_eq y
          have HTB : Hid ((textF ⟨#[]⟩).bulk ≤ 1000000000) := Lib.hid (by
            rw [textF_bulk]
            have h1 : (⟨#[]⟩ : ByteArray).size = 0 := rfl
            omega)
          have HFSM := Lib.hid (show FsAt W6 g (fun k => O k ∨ w.heap.size ≤ k ∧ k < W6.heap.size) tb f from HFS6.out.mono (fun k h => .inl h) (fun k h => h.elim (fun h => HFS6.out.lts k h) fun h => h.2))
          have hhq : hi1 ≤ W6.heap.size := hhi6
          have HYX : Hid (¬ 9223372036854775807 < y.data.size + x.data.size) := Lib.hid (by omega)
          clear hyd
          go_wp2_with fail
          refine (show Calls Tryd.prog 84 #[.pointer (some ⟨g, 0, none⟩), .slice B q.length d, .agg #[.string ⟨#[]⟩, .int .u8 2, .string ⟨#[]⟩, .slice none 0 0]] _ _ from put_calls_fs _ g (fun k => O k ∨ w.heap.size ≤ k ∧ k < W6.heap.size) tb f B d q (textF ⟨#[]⟩) none 0 ((HFSM.out).below (Below.refl W6.heap.size W6)) (by omega) (hIV6.out.mv fun k _ h2 => ((Below.refl W6.heap.size W6)).block k (by omega)).now hd (by omega) HQN.out (Kd.C_nil FileK _) (Nat.le_refl _) HTB.out).mono ?_
          rintro e w9 ⟨rfl, hfs9, ho9⟩
          have hr9 := ho9.block r (Nat.lt_of_lt_of_le hrl hs6) hrg
          go_wp2_with fail
          go_ret
          rw [← HR4.out]
          have ho6 : Only (fun k => k = g) W6 w9 := ⟨ho9.os, ho9.tape, ho9.output, ho9.size, ho9.block⟩
          have hs9 := ho6.size
          exact ⟨rfl, hfs9.mono (fun k h => h.elim (fun h => h.elim .inl fun h => .inr ⟨h.1, by omega⟩) fun h => .inr ⟨Nat.le_trans hs6 h.1, h.2⟩) (fun k h => h.elim (fun h => Nat.lt_of_lt_of_le (HFS6.out.lts k h) hs9) fun h => h.2), hr9.trans HRQ.out, (Only.of_belowV hbw6 (fun k => k = g ∨ k = r)).trans ho6 (fun _ _ h => h) (fun _ _ h => .inl h)⟩
end Go.Proofs.YthlcjjhfkldmhaaDoor.G
