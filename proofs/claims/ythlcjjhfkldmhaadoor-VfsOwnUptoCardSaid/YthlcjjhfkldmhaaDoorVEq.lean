/- slices.Equal at two paths. -/
import Derived.Test.YthlcjjhfkldmhaaDoorVPlain
import Derived.BigQuiet
set_option linter.unusedVariables false
set_option linter.unusedSimpArgs false
section
namespace Go.Proofs.YthlcjjhfkldmhaaDoor.G
open Go.RowKit Go.Lib Go.Proofs.YthlcjjhfkldmhaaDoorW.PrintWords Go.Proofs.YthlcjjhfkldmhaaDoorW.PrintLast
set_option linter.unusedVariables false
set_option linter.unusedSimpArgs false

set_option maxHeartbeats 8000000 in
set_option maxRecDepth 100000 in
theorem lstat_fs (w : World) (g r : Nat) (O : Nat → Prop) (tb : Option Nat) (f : FsV) (x : Req) (Ap : Option Addr) (cp : Nat) (Ad : Option Addr) (cd : Nat) (hfs : FsAt w g O tb f) (hreq : w.heap[r]? = some (.cells #[.slice Ap x.p.length cp, .slice Ad x.dest.length cd, .string x.data, .int .u8 0, .int .i64 0] 94 (0, 0))) (hrg : r ≠ g) (hrO : ¬ O r) (hbt : f.tree.bulk ≤ 100000000) (hp : Kd.C Kd.string w Ap x.p.length x.p) (hcp : x.p.length ≤ cp) (hps : P.sumP x.p ≤ 1024) (hdb : x.data.size ≤ 100000000) :
    Calls Tryd.prog 73 #[.pointer (some ⟨g, 0, none⟩), .pointer (some ⟨r, 0, none⟩)] w fun e w' => OpPost w g r O tb f x Ap cp Ad cd (lstatR f.tree x) e w' := by
  have HFS0 := Lib.hid hfs
  obtain ⟨A, c, v, m, lo, hi, hbox, hle, hiv, hsep, htr, htb, hfl, hOm, hOlt⟩ := hfs
  unfold fsCells at hbox
  have hgl := blk_lt hbox
  have hrl := blk_lt hreq
  have HS := Lib.hid (fun W (h : Below w.heap.size w W) => hiv W fun k h1 h2 => h.block k (hOlt k (hsep k h1 h2).1))
  have hlen := P.sumP_len x.p
  have hb0 := Below.refl w.heap.size w
  have I := Lib.hid (Hd.base hb0 (by first | exact Nat.le_refl _ | exact Below.size hb0))
  replace I := Lib.hid (Hd.and I.out (Hd.box hbox))
  replace I := Lib.hid (Hd.and I.out (Hd.box hreq))
  replace I := Lib.hid (Hd.and I.out (Hd.reads (hp)))
  obtain ⟨⟨q, y, is, k⟩, hu⟩ : ∃ r, walkR f.tree x.p false = r := ⟨_, rfl⟩
  have HU := Lib.hid hu
  have HRES := Lib.hid (show lstatR f.tree x = lstatR f.tree x from rfl)
  obtain ⟨res, hres⟩ : ∃ r, lstatR f.tree x = r := ⟨_, rfl⟩
  have HR := Lib.hid (show _ = res from hres)
  rw [hres]
  clear hu hres HRES hiv hsep htr hfl hOm hOlt hp hbox htb hreq
  go_enter Tryd.func73, Tryd.ntmps73
  go_wp2_with fail
  refine start_ (n := 19) (S := fun w' => w'.heap[g]? = some (.cells #[.string f.tree.name, .int .u8 f.tree.kind, .string f.tree.data, .slice A f.tree.files.length c, v, .map (some m)] 86 (0, 0)) ∧ w'.heap[r]? = some (.cells #[.slice Ap x.p.length cp, .slice Ad x.dest.length cd, .string x.data, .int .u8 0, .int .i64 0] 94 (0, 0))) (ds := [16]) (bq 19 0) (by kernel_rfl) rfl rfl ⟨(I.out _ (bdrew (Below.refl w.heap.size w))).2.2.1, (I.out _ (bdrew (Below.refl w.heap.size w))).2.1⟩ (fun hHeld => ?_)
  refine pure_ (i := 0) (N := some 10) (v := ?_) (a' := ?_) (bq 19 1) rfl rfl (by kernel_rfl) (fun _ _ _ h => h) (Or.inl ⟨by rfl, ?_⟩) ?_ ?_
  rotate_left
  · intro w'
    go_simp
    with_reducible rfl
  rotate_left
  · simp only [Act.put, List.setIfInBounds_toArray, List.set_cons_zero, List.set_cons_succ, i64_w, i32_w]
    rfl
  refine pure_ (i := 1) (N := some 11) (v := ?_) (a' := ?_) (bq 19 3) rfl rfl (by kernel_rfl) (fun _ _ _ h => h) (Or.inl ⟨by rfl, ?_⟩) ?_ ?_
  rotate_left
  · intro w'
    go_simp
    with_reducible rfl
  rotate_left
  · simp only [Act.put, List.setIfInBounds_toArray, List.set_cons_zero, List.set_cons_succ, i64_w, i32_w]
    rfl
  refine pure_ (i := 2) (N := some 12) (v := ?_) (a' := ?_) (bq 19 7) rfl rfl (by kernel_rfl) (fun _ _ _ h => h) (Or.inl ⟨by rfl, ?_⟩) ?_ ?_
  rotate_left
  · intro w'
    go_simp
    with_reducible rfl
  rotate_left
  · simp only [Act.put, List.setIfInBounds_toArray, List.set_cons_zero, List.set_cons_succ, i64_w, i32_w]
    rfl
  refine pure_ (i := 4) (N := some 14) (v := ?_) (a' := ?_) (bq 19 23) rfl rfl (by kernel_rfl) (fun _ _ _ h => h) (Or.inl ⟨by rfl, ?_⟩) ?_ ?_
  rotate_left
  · intro w'
    go_simp
    with_reducible rfl
  rotate_left
  · simp only [Act.put, List.setIfInBounds_toArray, List.set_cons_zero, List.set_cons_succ, i64_w, i32_w]
    rfl
  refine pure_ (i := 5) (N := some 15) (v := ?_) (a' := ?_) (bq 19 55) rfl rfl (by kernel_rfl) (fun _ _ _ h => h) (Or.inl ⟨by rfl, ?_⟩) ?_ ?_
  rotate_left
  · intro w'
    go_simp
    with_reducible rfl
  rotate_left
  · simp only [Act.put, List.setIfInBounds_toArray, List.set_cons_zero, List.set_cons_succ, i64_w, i32_w]
    rfl
  refine pure_ (i := 6) (N := some 16) (v := ?_) (a' := ?_) (bq 19 119) rfl rfl (by kernel_rfl) (fun _ _ _ h => h) (Or.inl ⟨by rfl, ?_⟩) ?_ ?_
  rotate_left
  · intro w'
    go_simp
    with_reducible rfl
  rotate_left
  · simp only [Act.put, List.setIfInBounds_toArray, List.set_cons_zero, List.set_cons_succ, i64_w, i32_w]
    rfl
  refine take_ (i := 3) (N := some 13) (v := ?_) (a' := ?_) (bq 19 127) rfl rfl (by kernel_rfl) (fun _ _ _ h => h) (Or.inl ⟨by rfl, ?_⟩) hHeld ?_ ?_
  rotate_left
  · rintro w' ⟨s0, s1⟩
    have q0 := cell_of (j := 0) s0 rfl
    have q1 := cell_of (j := 1) s0 rfl
    have q2 := cell_of (j := 2) s0 rfl
    have q3 := cell_of (j := 3) s0 rfl
    have q4 := cell_of (j := 4) s0 rfl
    have q5 := cell_of (j := 5) s0 rfl
    go_simp
    with_reducible rfl
  rotate_left
  · simp only [Act.put, List.setIfInBounds_toArray, List.set_cons_zero, List.set_cons_succ, i64_w, i32_w]
    rfl
  refine take_ (i := 7) (N := some 17) (v := ?_) (a' := ?_) (bq 19 255) rfl rfl (by kernel_rfl) (fun _ _ _ h => h) (Or.inl ⟨by rfl, ?_⟩) hHeld ?_ ?_
  rotate_left
  · rintro w' ⟨s0, s1⟩
    have q0 := cell_of (j := 0) s1 rfl
    have q1 := cell_of (j := 1) s1 rfl
    have q2 := cell_of (j := 2) s1 rfl
    have q3 := cell_of (j := 3) s1 rfl
    have q4 := cell_of (j := 4) s1 rfl
    go_simp
    with_reducible rfl
  rotate_left
  · simp only [Act.put, List.setIfInBounds_toArray, List.set_cons_zero, List.set_cons_succ, i64_w, i32_w]
    rfl
  refine join_ (σ := (Option Addr × Nat × Option Addr × Nat × Nat × Nat) × Nat) 4 (bq 19 32767) (fun s => match s with | ((B, d, A4, c4, lo1, hi1), gd) => [(18, .tuple #[.slice B q.length d, .agg #[.string y.name, .int .u8 y.kind, .string y.data, .slice A4 y.files.length c4], .bool is, .int .i64 k]), (9, .tuple #[.slice B q.length d, .agg #[.string y.name, .int .u8 y.kind, .string y.data, .slice A4 y.files.length c4], .bool is, .int .i64 k]), (19, .slice B q.length d), (20, .agg #[.string y.name, .int .u8 y.kind, .string y.data, .slice A4 y.files.length c4]), (21, .bool is), (22, .int .i64 k), (6, .pointer (some ⟨gd, 0, none⟩))]) (fun s W => match s with | ((B, d, A4, c4, lo1, hi1), gd) => Below w.heap.size w W ∧ w.heap.size ≤ gd ∧ W.heap[gd]? = some (.cells #[.string ⟨#[]⟩, .int .u8 0, .string ⟨#[]⟩, .slice none 0 0] 25 (0, 0)) ∧ q.length ≤ d ∧ Iv lo1 hi1 W (fun W => Kd.C Kd.string W B q.length q) ∧ w.heap.size ≤ lo1 ∧ hi1 ≤ W.heap.size ∧ (gd < lo1 ∨ hi1 ≤ gd) ∧ y.files.length ≤ c4 ∧ FileK.C w A4 y.files.length y.files) ?_ ?_
  rotate_left
  · intro hc
    refine two_ (i := 8) (j := 14) (Ni := some 18) (Nj := some 6) (bq 19 511) (bq 19 16639) rfl rfl rfl rfl (by kernel_rfl) (by decide) (by decide) (fun K hK => ?_) (fun K hK => ?_)
    · refine goes_ Tryd.func35 (by kernel_rfl) rfl #[.agg #[.string f.tree.name, .int .u8 f.tree.kind, .string f.tree.data, .slice A f.tree.files.length c], .slice Ap x.p.length cp, .bool false] (by rfl) rfl rfl (by simp only [List.map_toArray, List.map_cons, List.map_nil]; rfl) ?_
      refine ((show Calls Tryd.prog 35 #[.agg #[.string f.tree.name, .int .u8 f.tree.kind, .string f.tree.data, .slice A f.tree.files.length c], .slice Ap x.p.length cp, .bool false] _ _ from walk_calls f.tree A c Ap cp x.p false _ w ((bdrew (Below.refl w.heap.size w))) (HS.out w (Below.refl _ _)) hle (by omega) (I.out _ (bdrew (Below.refl w.heap.size w))).1 hcp (by omega) (by omega))).mono ?_
      rw [HU.out]
      rintro e w5 ⟨B, d, A4, c4, rfl, hd, hD, hc4, hC4, hq5⟩
      refine ⟨_, rfl, ?_⟩
      refine hK.out _ _ (⟨(I.out _ ((bdrew (Below.refl w.heap.size w)).trans hq5)).2.2.1, (I.out _ ((bdrew (Below.refl w.heap.size w)).trans hq5)).2.1⟩) (fun _ => ?_)
      refine norm_ (a' := ?_) ?_ ?_
      rotate_left
      · show Act.put _ (some 18) _ = _
        simp only [Act.put, List.setIfInBounds_toArray, List.set_cons_zero, List.set_cons_succ, i64_w, i32_w]
        rfl
      refine pure_ (i := 9) (N := some 9) (v := ?_) (a' := ?_) (bq 19 1023) rfl rfl (by kernel_rfl) (fun _ _ _ h => h) (Or.inl ⟨by rfl, ?_⟩) ?_ ?_
      rotate_left
      · intro w'
        go_simp
        with_reducible rfl
      rotate_left
      · simp only [Act.put, List.setIfInBounds_toArray, List.set_cons_zero, List.set_cons_succ, i64_w, i32_w]
        rfl
      refine pure_ (i := 10) (N := some 19) (v := ?_) (a' := ?_) (bq 19 2047) rfl rfl (by kernel_rfl) (fun _ _ _ h => h) (Or.inl ⟨by rfl, ?_⟩) ?_ ?_
      rotate_left
      · intro w'
        go_simp
        with_reducible rfl
      rotate_left
      · simp only [Act.put, List.setIfInBounds_toArray, List.set_cons_zero, List.set_cons_succ, i64_w, i32_w]
        rfl
      refine pure_ (i := 11) (N := some 20) (v := ?_) (a' := ?_) (bq 19 4095) rfl rfl (by kernel_rfl) (fun _ _ _ h => h) (Or.inl ⟨by rfl, ?_⟩) ?_ ?_
      rotate_left
      · intro w'
        go_simp
        with_reducible rfl
      rotate_left
      · simp only [Act.put, List.setIfInBounds_toArray, List.set_cons_zero, List.set_cons_succ, i64_w, i32_w]
        rfl
      refine pure_ (i := 12) (N := some 21) (v := ?_) (a' := ?_) (bq 19 8191) rfl rfl (by kernel_rfl) (fun _ _ _ h => h) (Or.inl ⟨by rfl, ?_⟩) ?_ ?_
      rotate_left
      · intro w'
        go_simp
        with_reducible rfl
      rotate_left
      · simp only [Act.put, List.setIfInBounds_toArray, List.set_cons_zero, List.set_cons_succ, i64_w, i32_w]
        rfl
      refine pure_ (i := 13) (N := some 22) (v := ?_) (a' := ?_) (bq 19 16383) rfl rfl (by kernel_rfl) (fun _ _ _ h => h) (Or.inl ⟨by rfl, ?_⟩) ?_ ?_
      rotate_left
      · intro w'
        go_simp
        with_reducible rfl
      rotate_left
      · simp only [Act.put, List.setIfInBounds_toArray, List.set_cons_zero, List.set_cons_succ, i64_w, i32_w]
        rfl
      refine one_ (i := 14) (N := some 6) (bq 19 32767) rfl rfl (by kernel_rfl) (by decide) (fun K hK => ?_)
      refine value_ (w1 := ?_) (v := ?_) (by rfl) rfl ?_ ?_
      rotate_left 2
      · go_simp
        constructor
        · rfl
        · rfl
      refine hK.out _ _ (⟨(I.out _ (below_alloc ((bdrew (Below.refl w.heap.size w)).trans hq5) _)).2.2.1, (I.out _ (below_alloc ((bdrew (Below.refl w.heap.size w)).trans hq5) _)).2.1⟩) (fun _ => ?_)
      refine norm_ (a' := _) ?_ (hc ((B, d, A4, c4, w.drew.heap.size, w5.heap.size), w5.heap.size) _ (⟨below_alloc ((bdrew (Below.refl w.heap.size w)).trans hq5) _, ((bdrew (Below.refl w.heap.size w)).trans hq5).size, blk_new w5 _, hd, Iv.mv hD fun k _ h2 => (below_alloc (Below.refl w5.heap.size w5) _).block k h2, (bdrew (Below.refl w.heap.size w)).size, (below_alloc (Below.refl w5.heap.size w5) _).size, .inr (Nat.le_refl _), hc4, hC4⟩))
      simp only [putAll, Act.put, List.setIfInBounds_toArray, List.set_cons_zero, List.set_cons_succ]
    · refine value_ (w1 := ?_) (v := ?_) (by rfl) rfl ?_ ?_
      rotate_left 2
      · go_simp
        constructor
        · rfl
        · rfl
      refine hK.out _ _ (⟨(I.out _ (below_alloc (bdrew (Below.refl w.heap.size w)) (.cells #[.string ⟨#[]⟩, .int .u8 0, .string ⟨#[]⟩, .slice none 0 0] 25))).2.2.1, (I.out _ (below_alloc (bdrew (Below.refl w.heap.size w)) (.cells #[.string ⟨#[]⟩, .int .u8 0, .string ⟨#[]⟩, .slice none 0 0] 25))).2.1⟩) (fun _ => ?_)
      refine norm_ (a' := ?_) ?_ ?_
      rotate_left
      · show Act.put _ (some 6) _ = _
        simp only [Act.put, List.setIfInBounds_toArray, List.set_cons_zero, List.set_cons_succ, i64_w, i32_w]
        rfl
      refine one_ (i := 8) (N := some 18) (bq 19 16895) rfl rfl (by kernel_rfl) (by decide) (fun K hK => ?_)
      refine goes_ Tryd.func35 (by kernel_rfl) rfl #[.agg #[.string f.tree.name, .int .u8 f.tree.kind, .string f.tree.data, .slice A f.tree.files.length c], .slice Ap x.p.length cp, .bool false] (by rfl) rfl rfl (by simp only [List.map_toArray, List.map_cons, List.map_nil]; rfl) ?_
      refine ((show Calls Tryd.prog 35 #[.agg #[.string f.tree.name, .int .u8 f.tree.kind, .string f.tree.data, .slice A f.tree.files.length c], .slice Ap x.p.length cp, .bool false] _ _ from walk_calls f.tree A c Ap cp x.p false _ w ((below_alloc (bdrew (Below.refl w.heap.size w)) (.cells #[.string ⟨#[]⟩, .int .u8 0, .string ⟨#[]⟩, .slice none 0 0] 25))) (HS.out w (Below.refl _ _)) hle (by omega) (I.out _ (below_alloc (bdrew (Below.refl w.heap.size w)) (.cells #[.string ⟨#[]⟩, .int .u8 0, .string ⟨#[]⟩, .slice none 0 0] 25))).1 hcp (by omega) (by omega))).mono ?_
      rw [HU.out]
      rintro e w5 ⟨B, d, A4, c4, rfl, hd, hD, hc4, hC4, hq5⟩
      refine ⟨_, rfl, ?_⟩
      refine hK.out _ _ (⟨(I.out _ ((below_alloc (bdrew (Below.refl w.heap.size w)) (.cells #[.string ⟨#[]⟩, .int .u8 0, .string ⟨#[]⟩, .slice none 0 0] 25)).trans (hq5.mono (below_alloc (Below.refl w.drew.heap.size w.drew) (.cells #[.string ⟨#[]⟩, .int .u8 0, .string ⟨#[]⟩, .slice none 0 0] 25)).size))).2.2.1, (I.out _ ((below_alloc (bdrew (Below.refl w.heap.size w)) (.cells #[.string ⟨#[]⟩, .int .u8 0, .string ⟨#[]⟩, .slice none 0 0] 25)).trans (hq5.mono (below_alloc (Below.refl w.drew.heap.size w.drew) (.cells #[.string ⟨#[]⟩, .int .u8 0, .string ⟨#[]⟩, .slice none 0 0] 25)).size))).2.1⟩) (fun _ => ?_)
      refine norm_ (a' := ?_) ?_ ?_
      rotate_left
      · show Act.put _ (some 18) _ = _
        simp only [Act.put, List.setIfInBounds_toArray, List.set_cons_zero, List.set_cons_succ, i64_w, i32_w]
        rfl
      refine pure_ (i := 9) (N := some 9) (v := ?_) (a' := ?_) (bq 19 17407) rfl rfl (by kernel_rfl) (fun _ _ _ h => h) (Or.inl ⟨by rfl, ?_⟩) ?_ ?_
      rotate_left
      · intro w'
        go_simp
        with_reducible rfl
      rotate_left
      · simp only [Act.put, List.setIfInBounds_toArray, List.set_cons_zero, List.set_cons_succ, i64_w, i32_w]
        rfl
      refine pure_ (i := 10) (N := some 19) (v := ?_) (a' := ?_) (bq 19 18431) rfl rfl (by kernel_rfl) (fun _ _ _ h => h) (Or.inl ⟨by rfl, ?_⟩) ?_ ?_
      rotate_left
      · intro w'
        go_simp
        with_reducible rfl
      rotate_left
      · simp only [Act.put, List.setIfInBounds_toArray, List.set_cons_zero, List.set_cons_succ, i64_w, i32_w]
        rfl
      refine pure_ (i := 11) (N := some 20) (v := ?_) (a' := ?_) (bq 19 20479) rfl rfl (by kernel_rfl) (fun _ _ _ h => h) (Or.inl ⟨by rfl, ?_⟩) ?_ ?_
      rotate_left
      · intro w'
        go_simp
        with_reducible rfl
      rotate_left
      · simp only [Act.put, List.setIfInBounds_toArray, List.set_cons_zero, List.set_cons_succ, i64_w, i32_w]
        rfl
      refine pure_ (i := 12) (N := some 21) (v := ?_) (a' := ?_) (bq 19 24575) rfl rfl (by kernel_rfl) (fun _ _ _ h => h) (Or.inl ⟨by rfl, ?_⟩) ?_ ?_
      rotate_left
      · intro w'
        go_simp
        with_reducible rfl
      rotate_left
      · simp only [Act.put, List.setIfInBounds_toArray, List.set_cons_zero, List.set_cons_succ, i64_w, i32_w]
        rfl
      refine pure_ (i := 13) (N := some 22) (v := ?_) (a' := ?_) (bq 19 32767) rfl rfl (by kernel_rfl) (fun _ _ _ h => h) (Or.inl ⟨by rfl, ?_⟩) ?_ ?_
      rotate_left
      · intro w'
        go_simp
        with_reducible rfl
      rotate_left
      · simp only [Act.put, List.setIfInBounds_toArray, List.set_cons_zero, List.set_cons_succ, i64_w, i32_w]
        rfl
      refine norm_ (a' := _) ?_ (hc ((B, d, A4, c4, (w.drew.alloc (.cells #[.string ⟨#[]⟩, .int .u8 0, .string ⟨#[]⟩, .slice none 0 0] 25)).heap.size, w5.heap.size), w.heap.size) _ (⟨((below_alloc (bdrew (Below.refl w.heap.size w)) (.cells #[.string ⟨#[]⟩, .int .u8 0, .string ⟨#[]⟩, .slice none 0 0] 25)).trans (hq5.mono (below_alloc (Below.refl w.drew.heap.size w.drew) (.cells #[.string ⟨#[]⟩, .int .u8 0, .string ⟨#[]⟩, .slice none 0 0] 25)).size)), Nat.le_refl _, (hq5.block _ (blk_lt (blk_new w.drew (.cells #[.string ⟨#[]⟩, .int .u8 0, .string ⟨#[]⟩, .slice none 0 0] 25)))).trans (blk_new w.drew (.cells #[.string ⟨#[]⟩, .int .u8 0, .string ⟨#[]⟩, .slice none 0 0] 25)), hd, hD, (below_alloc (bdrew (Below.refl w.heap.size w)) (.cells #[.string ⟨#[]⟩, .int .u8 0, .string ⟨#[]⟩, .slice none 0 0] 25)).size, Nat.le_refl _, .inl (blk_lt (blk_new w.drew (.cells #[.string ⟨#[]⟩, .int .u8 0, .string ⟨#[]⟩, .slice none 0 0] 25))), hc4, hC4⟩))
      simp only [putAll, Act.put, List.setIfInBounds_toArray, List.set_cons_zero, List.set_cons_succ]
  · rintro ⟨⟨B, d, A4, c4, lo1, hi1⟩, gd⟩ W hF
    refine norm_ (a' := ?_) ?_ ?_
    rotate_left
    · simp only [putAll, Act.put, List.setIfInBounds_toArray, List.set_cons_zero, List.set_cons_succ]
      rfl
    obtain ⟨hbW, hgd, hzz, hd, hD, hlo1, hhi1, hsp, hc4, hC4⟩ := hF
    have hHeld := (show W.heap[g]? = some (.cells #[.string f.tree.name, .int .u8 f.tree.kind, .string f.tree.data, .slice A f.tree.files.length c, v, .map (some m)] 86 (0, 0)) ∧ W.heap[r]? = some (.cells #[.slice Ap x.p.length cp, .slice Ad x.dest.length cd, .string x.data, .int .u8 0, .int .i64 0] 94 (0, 0)) from ⟨(I.out _ hbW).2.2.1, (I.out _ hbW).2.1⟩)
    refine pure_ (i := 15) (N := some 5) (v := ?_) (a' := ?_) (bq 19 65535) rfl rfl (by kernel_rfl) (fun _ _ _ h => h) (Or.inl ⟨by rfl, ?_⟩) ?_ ?_
    rotate_left
    · intro w'
      go_simp
      with_reducible rfl
    rotate_left
    · simp only [Act.put, List.setIfInBounds_toArray, List.set_cons_zero, List.set_cons_succ, i64_w, i32_w]
      rfl
    refine last_ (i := 16) (N := none) (bq 19 131071) rfl rfl (by kernel_rfl) (by decide) (fun K hK => ?_)
    have zc0 := cell_of (j := 0) hzz rfl
    have zu0 := unfr hzz 0
    have zc1 := cell_of (j := 1) hzz rfl
    have zu1 := unfr hzz 1
    have zc2 := cell_of (j := 2) hzz rfl
    have zu2 := unfr hzz 2
    have zc3 := cell_of (j := 3) hzz rfl
    have zu3 := unfr hzz 3
    refine skip_ (w1 := ?_) (by rfl) rfl ?_ ?_
    rotate_left
    · go_simp
      rfl
    refine hK.out _ _ ?_
    refine pure_ (i := 17) (N := some 7) (v := ?_) (a' := ?_) (bq 19 262143) rfl rfl (by kernel_rfl) (fun _ _ _ h => h) (Or.inl ⟨by rfl, ?_⟩) ?_ ?_
    rotate_left
    · intro w'
      go_simp
      with_reducible rfl
    rotate_left
    · simp only [Act.put, List.setIfInBounds_toArray, List.set_cons_zero, List.set_cons_succ, i64_w, i32_w]
      rfl
    refine pure_ (i := 18) (N := some 8) (v := ?_) (a' := ?_) (bq 19 524287) rfl rfl (by kernel_rfl) (fun _ _ _ h => h) (Or.inl ⟨by rfl, ?_⟩) ?_ ?_
    rotate_left
    · intro w'
      go_simp
      with_reducible rfl
    rotate_left
    · simp only [Act.put, List.setIfInBounds_toArray, List.set_cons_zero, List.set_cons_succ, i64_w, i32_w]
      rfl
    refine done_ (by kernel_rfl) ?_
    have hq6 := store4_below hbW (g := gd) hgd (.string y.name) (.int .u8 y.kind) (.string y.data) (.slice A4 y.files.length c4)
    have hd6 := store4_box hzz (.string y.name) (.int .u8 y.kind) (.string y.data) (.slice A4 y.files.length c4)
    replace I := Lib.hid (Hd.mv I.out hq6)
    replace I := Lib.hid (Hd.and I.out (Hd.box (hd6)))
    have hIV6 := Lib.hid (hD.mv (w' := ((((W.setCell ⟨gd, 0, none⟩ (.string y.name)).setCell ⟨gd, 1, none⟩ (.int .u8 y.kind)).setCell ⟨gd, 2, none⟩ (.string y.data)).setCell ⟨gd, 3, none⟩ (.slice A4 y.files.length c4))) fun k h1 h2 => store4_other W (g := gd) (by omega) _ _ _ _)
    have HCY := Lib.hid hC4
    have hsz6 : ((((W.setCell ⟨gd, 0, none⟩ (.string y.name)).setCell ⟨gd, 1, none⟩ (.int .u8 y.kind)).setCell ⟨gd, 2, none⟩ (.string y.data)).setCell ⟨gd, 3, none⟩ (.slice A4 y.files.length c4)).heap.size = W.heap.size := by simp [World.setCell]
    have hhi6 : hi1 ≤ ((((W.setCell ⟨gd, 0, none⟩ (.string y.name)).setCell ⟨gd, 1, none⟩ (.int .u8 y.kind)).setCell ⟨gd, 2, none⟩ (.string y.data)).setCell ⟨gd, 3, none⟩ (.slice A4 y.files.length c4)).heap.size := by omega
    clear zc0 zc1 zc2 zc3 zu0 zu1 zu2 zu3 hHeld hK hd6 hD hC4 hsz6 hzz hsp hhi1
    generalize ((((W.setCell ⟨gd, 0, none⟩ (.string y.name)).setCell ⟨gd, 1, none⟩ (.int .u8 y.kind)).setCell ⟨gd, 2, none⟩ (.string y.data)).setCell ⟨gd, 3, none⟩ (.slice A4 y.files.length c4)) = W6 at *
    have hbw6 := I.out.now.2.2.2.2
    have HFS6 := Lib.hid (HFS0.out.below hbw6)
    have hs6 := hbw6.size
    have HR1 := HR.out
    unfold lstatR at HR1
    rw [HU.out] at HR1
    simp only at HR1
    replace HR1 := Lib.hid HR1
    have HRQ := Lib.hid I.out.now.2.2.1
    clear HR
    by_cases hk : k = 0
    rotate_left
    · skip
      have HR2 := HR1.out
      rw [if_neg hk] at HR2
      replace HR2 := Lib.hid HR2
      have k1 : (k != 0) = true := by rw [bne_iff_ne]; exact hk
      have k1e : (k == 0) = false := beq_eq_false_iff_ne.2 hk
      clear hk
      go_wp2_with fail
      go_ret
      rw [← HR2.out]
      exact ⟨rfl, HFS6.out.mono (fun k h => .inl h) (fun k h => h.elim (fun h => HFS6.out.lts k h) fun h => h.2), HRQ.out, Only.of_belowV hbw6 _⟩
    · skip
      subst hk
      have HR2 := HR1.out
      rw [if_pos rfl] at HR2
      replace HR2 := Lib.hid HR2
      cases is
      · skip
        have HR3 := HR2.out
        rw [if_neg (by decide)] at HR3
        replace HR3 := Lib.hid HR3
        go_wp2_with fail
        go_ret
        rw [← HR3.out]
        exact ⟨rfl, HFS6.out.mono (fun k h => .inl h) (fun k h => h.elim (fun h => HFS6.out.lts k h) fun h => h.2), HRQ.out, Only.of_belowV hbw6 _⟩
      · skip
        have HR4 := HR2.out
        rw [if_pos rfl] at HR4
        replace HR4 := Lib.hid HR4
        have ly0 := cell_of (j := 0) I.out.now.1 rfl
        have ly1 := cell_of (j := 1) I.out.now.1 rfl
        have ly2 := cell_of (j := 2) I.out.now.1 rfl
        have ly3 := cell_of (j := 3) I.out.now.1 rfl
        have zr3 := cell_of (j := 3) HRQ.out rfl
        have ur3 := unfr HRQ.out 3
        have zr4 := cell_of (j := 4) HRQ.out rfl
        have ur4 := unfr HRQ.out 4
        go_wp2_with fail
        go_ret
        rw [← HR4.out]
        have hne : ∀ k, k = g ∨ O k → k ≠ r := fun k h e => h.elim (fun h => hrg (e.symm.trans h)) fun h => hrO (e ▸ h)
        have hkp : FsAt ((W6.setCell ⟨r, 3, none⟩ (.int .u8 y.kind)).setCell ⟨r, 4, none⟩ (.int .i64 y.data.size)) g O tb f := (HFS6.out.keep (fun k h => Below.heap_setCell _ _ _ _ (hne k h)) (by simp [World.setCell])).keep (fun k h => Below.heap_setCell _ _ _ _ (hne k h)) (by simp [World.setCell])
        exact ⟨rfl, hkp.mono (fun k h => .inl h) (fun k h => h.elim (fun h => hkp.lts k h) fun h => h.2), blk_put (blk_put HRQ.out 3 (.int .u8 y.kind) rfl) 4 (.int .i64 y.data.size) rfl, ((Only.of_belowV hbw6 (fun k => k = g ∨ k = r)).trans (Only.setCell W6 ⟨r, 3, none⟩ (.int .u8 y.kind)) (fun _ _ h => h) (fun _ _ h => .inr h)).trans (Only.setCell _ ⟨r, 4, none⟩ (.int .i64 y.data.size)) (fun _ _ h => h) (fun _ _ h => .inr h)⟩
end Go.Proofs.YthlcjjhfkldmhaaDoor.G
end
section
namespace Go.Proofs.YthlcjjhfkldmhaaDoor.G
open Go.RowKit Go.Lib Go.Proofs.YthlcjjhfkldmhaaDoorW.PrintWords Go.Proofs.YthlcjjhfkldmhaaDoorW.PrintLast
set_option linter.unusedVariables false

theorem toList_injV {x y : ByteArray} : x.toList = y.toList ↔ x = y := by
  rw [Lib.toList_data, Lib.toList_data]
  constructor
  · intro h
    exact ByteArray.ext (Array.toList_inj.1 h)
  · rintro rfl; rfl
/-- The walk's own state: the first k names are alike. -/
def AlikeV (a b : List ByteArray) (k : Nat) : Prop := ∀ j : Nat, j < k → rdOf ByteArray.empty a (j : Int) = rdOf ByteArray.empty b (j : Int)
theorem AlikeV.all {a b : List ByteArray} (hl : a.length = b.length) (h : AlikeV a b a.length) : a = b :=
  List.ext_getElem hl fun j h1 h2 => by
    have h3 := h j h1
    simpa [rdOf, h1, h2] using h3
theorem AlikeV.not {a b : List ByteArray} {k : Nat} (h : rdOf ByteArray.empty a (k : Int) ≠ rdOf ByteArray.empty b (k : Int)) : ¬ a = b := fun e => h (by rw [e])

set_option maxHeartbeats 4000000 in
theorem eqP_calls (A : Option Addr) (c : Nat) (a : List ByteArray) (B : Option Addr) (d : Nat) (b : List ByteArray) (w : World) (hr : Kd.C Kd.string w A a.length a) (hc : a.length ≤ c) (hs : Kd.C Kd.string w B b.length b) (hd : b.length ≤ d) (hl : a.length ≤ 8796093022208) :
    Calls Tryd.prog 85 #[.slice A a.length c, .slice B b.length d] w fun e w' => e = .returned (.bool (decide (a = b))) ∧ ∃ n, w' = w.drewN n := by
  have HR := Lib.hid hr
  have HS := Lib.hid hs
  by_cases hab : a.length = b.length
  · have HE := Lib.hid hab
    have hk2 : a.length ≤ b.length := Nat.le_of_eq hab
    rw [← hab]
    clear hr hs hab
    go_enter Tryd.func85, Tryd.ntmps85
    go_wp2
    go_loopw [13] (fun i wr => ∃ k n : Nat, k ≤ a.length ∧ i = .int .i64 k ∧ wr = w.drewN n ∧ Hid (AlikeV a b k)) (fun i _ => a.length - (RowKit.intOf i).toNat)
    case atStart => exact ⟨0, 0, by omega, rfl, rfl, Lib.hid (fun j hj => by omega)⟩
    case round =>
      obtain ⟨k, n, hk1, rfl, rfl, HA⟩ := hrel
      by_cases q1 : k < a.length
      · have z1 : decide ((k : Int) < (a.length : Int)) = true := decide_eq_true (by omega)
        obtain ⟨ad, rfl, hx⟩ := Kd.at_string HR.out (k : Int) (by omega) (by omega)
        obtain ⟨bd, rfl, hy⟩ := Kd.at_string HS.out (k : Int) (by omega) (by omega)
        rw [Int.toNat_natCast] at hx hy
        obtain ⟨x, hxe⟩ : ∃ x, rdOf ByteArray.empty a (k : Int) = x := ⟨_, rfl⟩
        obtain ⟨y, hye⟩ : ∃ y, rdOf ByteArray.empty b (k : Int) = y := ⟨_, rfl⟩
        rw [hxe] at hx
        rw [hye] at hy
        have HX := Lib.hid hxe
        have HY := Lib.hid hye
        clear hxe hye
        by_cases q3 : x = y
        · have z3 : (x.toList == y.toList) = true := beq_iff_eq.2 (toList_injV.2 q3)
          have H3 := Lib.hid q3
          clear q3
          go_wp2
          go_quiet (fail)
          go_wp2
          go_roundw
          case rel => exact ⟨k + 1, _, by omega, by go_num, by first | rfl | (simp only [World.drewN_drewN]; rfl), Lib.hid (fun j hj => by
            by_cases e : j = k
            · subst e; rw [HX.out, HY.out]; exact H3.out
            · exact HA.out j (by omega))⟩
          case measure => simp [RowKit.intOf]; omega
        · have z3 : (x.toList == y.toList) = false := beq_eq_false_iff_ne.2 (fun h => q3 (toList_injV.1 h))
          have H3 := Lib.hid q3
          clear q3
          go_wp2
          go_quiet (fail)
          go_wp2
          go_ret
          exact ⟨by rw [decide_eq_false (AlikeV.not (k := k) (by rw [HX.out, HY.out]; exact H3.out))]; rfl, _, by first | rfl | (simp only [World.drewN_drewN]; rfl)⟩
      · have z1 : decide ((k : Int) < (a.length : Int)) = false := decide_eq_false (by omega)
        have hkk : k = a.length := by omega
        have HK := Lib.hid hkk
        clear hkk
        go_wp2
        go_ret
        exact ⟨by rw [decide_eq_true (AlikeV.all HE.out (by have := HA.out; rw [HK.out] at this; exact this))]; rfl, _, by first | rfl | (simp only [World.drewN_drewN]; rfl)⟩
  · have hnm : ¬ (a.length : Int) = (b.length : Int) := by omega
    have HN := Lib.hid (show ¬ a = b from fun e => hab (by rw [e]))
    clear hr hs hab
    go_enter Tryd.func85, Tryd.ntmps85
    go_wp2
    go_ret
    exact ⟨by rw [decide_eq_false HN.out]; rfl, 0, rfl⟩
theorem eqP_below (A : Option Addr) (c : Nat) (a : List ByteArray) (B : Option Addr) (d : Nat) (b : List ByteArray) (w : World) (hr : Kd.C Kd.string w A a.length a) (hc : a.length ≤ c) (hs : Kd.C Kd.string w B b.length b) (hd : b.length ≤ d) (hl : a.length ≤ 8796093022208) :
    Calls Tryd.prog 85 #[.slice A a.length c, .slice B b.length d] w fun e w' => e = .returned (.bool (decide (a = b))) ∧ Below w.heap.size w w' :=
  (eqP_calls A c a B d b w hr hc hs hd hl).mono (by
    rintro e w' ⟨h1, n, rfl⟩
    exact ⟨h1, bdrewN (Below.refl _ _) n⟩)
end Go.Proofs.YthlcjjhfkldmhaaDoor.G
end
