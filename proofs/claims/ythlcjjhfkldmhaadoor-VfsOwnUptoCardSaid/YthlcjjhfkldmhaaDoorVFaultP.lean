/- A call with a plan of faults against one without: plain. -/
import Derived.Test.YthlcjjhfkldmhaaDoorVApi
import Derived.Test.YthlcjjhfkldmhaaDoorVFrame
import Derived.Test.YthlcjjhfkldmhaaDoorVPlain
set_option linter.unusedVariables false
set_option linter.unusedSimpArgs false
section
namespace Go.Proofs.YthlcjjhfkldmhaaDoor.G
open Go.RowKit Go.Lib Go.Proofs.YthlcjjhfkldmhaaDoorW.PrintWords Go.Proofs.YthlcjjhfkldmhaaDoorW.PrintLast
set_option linter.unusedVariables false
set_option linter.unusedSimpArgs false

/-- A call by its kind: the file system, what is answered, the error. -/
def doV (f : FsV) (x : Step) : FsV × Told × Int :=
  if x.kind = 1 then ((callV f 1 ⟨x.path, [], ⟨#[]⟩⟩).1, ⟨(callV f 1 ⟨x.path, [], ⟨#[]⟩⟩).2.1.kind, (callV f 1 ⟨x.path, [], ⟨#[]⟩⟩).2.1.size, ⟨#[]⟩⟩, (callV f 1 ⟨x.path, [], ⟨#[]⟩⟩).2.2)
  else if x.kind = 2 then ((callV f 2 ⟨x.path, [], ⟨#[]⟩⟩).1, told0 (callV f 2 ⟨x.path, [], ⟨#[]⟩⟩).2.1.data, (callV f 2 ⟨x.path, [], ⟨#[]⟩⟩).2.2)
  else if x.kind = 3 then ((callV f 3 ⟨x.path, [], ⟨#[]⟩⟩).1, told0 ⟨#[]⟩, (callV f 3 ⟨x.path, [], ⟨#[]⟩⟩).2.2)
  else if x.kind = 4 then ((callV f 4 ⟨x.path, [], x.data⟩).1, told0 ⟨#[]⟩, (callV f 4 ⟨x.path, [], x.data⟩).2.2)
  else if x.kind = 5 then ((callV f 5 ⟨x.path, x.dest, ⟨#[]⟩⟩).1, told0 ⟨#[]⟩, (callV f 5 ⟨x.path, x.dest, ⟨#[]⟩⟩).2.2)
  else (f, told0 ⟨#[]⟩, 0)
/-- Midway: what a call has left, boxes of the caller's own written besides. -/
def FsMid (w W : World) (g : Nat) (O : Nat → Prop) (tb : Option Nat) (f' : FsV) (w1 : World) : Prop :=
  (∃ tb', (tb' = tb ∨ ∃ j, tb' = some j ∧ W.heap.size ≤ j) ∧ FsAt w1 g (fun k => O k ∨ W.heap.size ≤ k ∧ k < w1.heap.size) tb' f') ∧ Only (fun k => k = g ∨ tb = some k ∨ w.heap.size ≤ k) W w1
theorem FsPost.mid {w W w1 : World} {g : Nat} {O : Nat → Prop} {tb : Option Nat} {f' : FsV} (h : FsPost W g O tb f' w1) : FsMid w W g O tb f' w1 := ⟨h.1, h.2.mono fun k _ hk => hk.imp id .inl⟩
theorem FsMid.put {w W w1 : World} {g : Nat} {O : Nat → Prop} {tb : Option Nat} {f' : FsV} (h : FsMid w W g O tb f' w1) {p : Addr} (hk : w.heap.size ≤ p.block) (hl : p.block < W.heap.size) (hg : g < w.heap.size) (hO : ∀ k, O k → k < w.heap.size) (v : Value) : FsMid w W g O tb f' (w1.setCell p v) := by
  obtain ⟨⟨tb', h1, h2⟩, h3⟩ := h
  have hz : (w1.setCell p v).heap.size = w1.heap.size := by simp [World.setCell]
  refine ⟨⟨tb', h1, ?_⟩, h3.trans (Only.setCell w1 p v) (fun _ _ h => h) (fun k _ h => .inr (.inr (by omega)))⟩
  rw [hz]
  exact h2.keep (fun k hk' => Below.heap_setCell _ _ _ _ (by rcases hk' with h | h | h; (· omega); (· have := hO k h; omega); (· omega))) (by omega)
theorem FsMid.done {w W w1 : World} {g : Nat} {O : Nat → Prop} {tb : Option Nat} {f f' : FsV} (h : FsMid w W g O tb f' w1) (hfs : FsAt w g O tb f) (hb : Below w.heap.size w W) : FsPost w g O tb f' w1 := by
  obtain ⟨⟨tb', h1, h2⟩, h3⟩ := h
  exact fsPost_lift hfs hb (fun k hk h => by rcases h with h | h | h; (· exact .inl h); (· exact .inr h); (· omega)) h1 h2 h3
theorem tb_lt {w : World} {g : Nat} {O : Nat → Prop} {tb : Option Nat} {f : FsV} (h : FsAt w g O tb f) : ∀ k, tb = some k → k < w.heap.size := by
  obtain ⟨A, c, v, m, lo, hi, _, _, _, _, h5, h6, _⟩ := h
  exact fun k e => Kd.R_lt h5 k (h6.trans e)
theorem boxes3 (w : World) (a b c : Array Value) (t u v : TypeId) : (((w.alloc (.cells a t)).alloc (.cells b u)).alloc (.cells c v)).heap[w.heap.size]? = some (.cells a t (0, 0)) ∧ (((w.alloc (.cells a t)).alloc (.cells b u)).alloc (.cells c v)).heap[w.heap.size + 1]? = some (.cells b u (0, 0)) ∧ (((w.alloc (.cells a t)).alloc (.cells b u)).alloc (.cells c v)).heap[w.heap.size + 2]? = some (.cells c v (0, 0)) := by
  have h := two_boxes w a b t u
  have h3 := blk_new ((w.alloc (.cells a t)).alloc (.cells b u)) (.cells c v)
  have hs : ((w.alloc (.cells a t)).alloc (.cells b u)).heap.size = w.heap.size + 2 := by simp
  rw [hs] at h3
  exact ⟨(Below.heap_alloc _ _ _ (by rw [hs]; omega)).trans h.1, (Below.heap_alloc _ _ _ (by rw [hs]; omega)).trans h.2, h3⟩
set_option maxHeartbeats 8000000 in
set_option maxRecDepth 100000 in
theorem do_calls (w : World) (g : Nat) (O : Nat → Prop) (tb : Option Nat) (f : FsV) (hfs : FsAt w g O tb f) (hgO : ¬ O g) (hbt : f.tree.bulk ≤ 100000000) (htl : f.trace.length ≤ 2000000) (x : Step) (A B : Option Addr) (c d : Nat) (HP : PathAt w g tb A x.path) (hc : x.path.length ≤ c) (hpB : P.sumP x.path ≤ 1099511627776) (HQ : PathAt w g tb B x.dest) (hd : x.dest.length ≤ d) (hqB : P.sumP x.dest ≤ 1099511627776) (hdb : x.data.size ≤ 100000000) :
    Calls Tryd.prog 22 #[.pointer (some ⟨g, 0, none⟩), .agg #[.int .u8 x.kind, .slice A x.path.length c, .slice B x.dest.length d, .string x.data]] w fun e w' => e = .returned (.tuple #[.agg #[.int .u8 (doV f x).2.1.kind, .int .i64 (doV f x).2.1.size, .string (doV f x).2.1.data], .int .i64 (doV f x).2.2]) ∧ FsPost w g O tb (doV f x).1 w' := by
  have h3 := boxes3 w #[.int .u8 x.kind, .slice A x.path.length c, .slice B x.dest.length d, .string x.data] #[.int .u8 0, .int .i64 0, .string ⟨#[]⟩] #[.int .u8 0, .int .i64 0, .string ⟨#[]⟩] 46 52 52
  have hb0 := (((Below.refl w.heap.size w).alloc (Nat.le_refl _) (.cells #[.int .u8 x.kind, .slice A x.path.length c, .slice B x.dest.length d, .string x.data] 46)).alloc (by simp) (.cells #[.int .u8 0, .int .i64 0, .string ⟨#[]⟩] 52)).alloc (by simp; omega) (.cells #[.int .u8 0, .int .i64 0, .string ⟨#[]⟩] 52)
  have hgl := hfs.lt
  have hlts := hfs.lts
  have htbl := tb_lt hfs
  have HFS := Lib.hid hfs
  have HF0 := Lib.hid (hfs.below hb0)
  have HP0 := Lib.hid (Kd.F_below HP hb0)
  have HQ0 := Lib.hid (Kd.F_below HQ hb0)
  have hs0 : (((w.alloc (.cells #[.int .u8 x.kind, .slice A x.path.length c, .slice B x.dest.length d, .string x.data] 46)).alloc (.cells #[.int .u8 0, .int .i64 0, .string ⟨#[]⟩] 52)).alloc (.cells #[.int .u8 0, .int .i64 0, .string ⟨#[]⟩] 52)).heap.size = w.heap.size + 3 := by simp
  have HB0 := Lib.hid hb0
  have H0 := Lib.hid h3.1
  have H1 := Lib.hid h3.2.1
  have H2 := Lib.hid h3.2.2
  clear hfs hb0 h3 HP HQ
  have hkk : x.kind = 1 ∨ x.kind = 2 ∨ x.kind = 3 ∨ x.kind = 4 ∨ x.kind = 5 ∨ (x.kind ≠ 1 ∧ x.kind ≠ 2 ∧ x.kind ≠ 3 ∧ x.kind ≠ 4 ∧ x.kind ≠ 5) := by omega
  go_enter Tryd.func22, Tryd.ntmps22
  have l0 := cell_of (j := 0) H0.out rfl
  have l1 := cell_of (j := 1) H0.out rfl
  have l2 := cell_of (j := 2) H0.out rfl
  have l3 := cell_of (j := 3) H0.out rfl
  rcases hkk with hk | hk | hk | hk | hk | ⟨k1, k2, k3, k4, k5⟩
  · skip
    have b1 : (x.kind == 1) = true := beq_iff_eq.2 hk
    obtain ⟨⟨f1, tl, wy⟩, hcv⟩ : ∃ r, callV f 1 ⟨x.path, [], ⟨#[]⟩⟩ = r := ⟨_, rfl⟩
    have HD := Lib.hid (show doV f x = (f1, ⟨tl.kind, tl.size, ⟨#[]⟩⟩, wy) from by
      unfold doV
      rw [if_pos hk]
      rw [hcv])
    have HCV := Lib.hid hcv
    rw [HD.out]
    clear hk hcv
    go_wp2_with fail
    generalize (((w.alloc (.cells #[.int .u8 x.kind, .slice A x.path.length c, .slice B x.dest.length d, .string x.data] 46)).alloc (.cells #[.int .u8 0, .int .i64 0, .string ⟨#[]⟩] 52)).alloc (.cells #[.int .u8 0, .int .i64 0, .string ⟨#[]⟩] 52)) = W0 at *
    have hc1 := lstat_api W0 g O tb f HF0.out hgO hbt htl A c x.path HP0.out hc hpB
    rw [show callV f 1 ⟨x.path, [], ⟨#[]⟩⟩ = (f1, tl, wy) from HCV.out] at hc1
    refine hc1.mono ?_
    clear hc1
    rintro e w1 ⟨rfl, hp1⟩
    have HP1 := Lib.hid (FsPost.mid (w := w) hp1)
    have hk1 : ∀ j, w.heap.size ≤ j → j < W0.heap.size → w1.heap[j]? = W0.heap[j]? := fun j h1 h2 => hp1.2.block j h2 fun h => by
      rcases h with h | h
      · omega
      · have := htbl j h; omega
    have H11 := Lib.hid ((hk1 (w.heap.size + 1) (by omega) (by omega)).trans H1.out)
    have H12 := Lib.hid ((hk1 (w.heap.size + 2) (by omega) (by omega)).trans H2.out)
    clear hp1 hk1 l0 l1 l2 l3
    have e0 := cell_of (j := 0) H12.out rfl
    have g0 := unfr H12.out 0
    have n0 := cell_of (j := 0) H11.out rfl
    have m0 := unfr H11.out 0
    have e1 := cell_of (j := 1) H12.out rfl
    have g1 := unfr H12.out 1
    have n1 := cell_of (j := 1) H11.out rfl
    have m1 := unfr H11.out 1
    have e2 := cell_of (j := 2) H12.out rfl
    have g2 := unfr H12.out 2
    have n2 := cell_of (j := 2) H11.out rfl
    have m2 := unfr H11.out 2
    have H22 := Lib.hid (blk_put (blk_put H12.out 0 (.int .u8 tl.kind) rfl) 1 (.int .i64 tl.size) rfl)
    have H21 := Lib.hid ((Below.heap_setCell (w1.setCell ⟨w.heap.size + 2, 0, none⟩ (.int .u8 tl.kind)) ⟨w.heap.size + 2, 1, none⟩ (.int .i64 tl.size) (w.heap.size + 1) (by simp only; omega)).trans ((Below.heap_setCell w1 ⟨w.heap.size + 2, 0, none⟩ (.int .u8 tl.kind) (w.heap.size + 1) (by simp only; omega)).trans H11.out))
    have HM2 := Lib.hid ((HP1.out.put (p := ⟨w.heap.size + 2, 0, none⟩) (by simp only; omega) (by simp only; omega) hgl hlts (.int .u8 tl.kind)).put (p := ⟨w.heap.size + 2, 1, none⟩) (by simp only; omega) (by simp only; omega) hgl hlts (.int .i64 tl.size))
    obtain ⟨W2, hW2⟩ : ∃ W, ((w1.setCell ⟨w.heap.size + 2, 0, none⟩ (.int .u8 tl.kind)).setCell ⟨w.heap.size + 2, 1, none⟩ (.int .i64 tl.size)) = W := ⟨_, rfl⟩
    rw [hW2] at H22 H21 HM2
    have e02 := cell_of (j := 0) H22.out rfl
    have n02 := cell_of (j := 0) H21.out rfl
    have m02 := unfr H21.out 0
    have e12 := cell_of (j := 1) H22.out rfl
    have n12 := cell_of (j := 1) H21.out rfl
    have m12 := unfr H21.out 1
    have e22 := cell_of (j := 2) H22.out rfl
    have n22 := cell_of (j := 2) H21.out rfl
    have m22 := unfr H21.out 2
    go_wp2_with fail
    refine bodyPost_ret (results_ct rfl _ _ (w.heap.size + 1) 52 #[.int .u8 tl.kind, .int .i64 tl.size, .string ⟨#[]⟩] (0, 0) _ rfl (blk_put (blk_put (blk_put H21.out 0 (.int .u8 tl.kind) rfl) 1 (.int .i64 tl.size) rfl) 2 (.string ⟨#[]⟩) rfl) Tryd.underlying52 rfl (by kernel_rfl)) rfl ?_
    exact ⟨rfl, FsMid.done (((HM2.out.put (p := ⟨w.heap.size + 1, 0, none⟩) (by simp only; omega) (by simp only; omega) hgl hlts (.int .u8 tl.kind)).put (p := ⟨w.heap.size + 1, 1, none⟩) (by simp only; omega) (by simp only; omega) hgl hlts (.int .i64 tl.size)).put (p := ⟨w.heap.size + 1, 2, none⟩) (by simp only; omega) (by simp only; omega) hgl hlts (.string ⟨#[]⟩)) HFS.out HB0.out⟩
  · skip
    have b1 : (x.kind == 1) = false := beq_eq_false_iff_ne.2 (by omega)
    have b2 : (x.kind == 2) = true := beq_iff_eq.2 hk
    obtain ⟨⟨f1, tl, wy⟩, hcv⟩ : ∃ r, callV f 2 ⟨x.path, [], ⟨#[]⟩⟩ = r := ⟨_, rfl⟩
    have HD := Lib.hid (show doV f x = (f1, told0 tl.data, wy) from by
      unfold doV
      rw [if_neg (by omega)]
      rw [if_pos hk]
      rw [hcv])
    have HCV := Lib.hid hcv
    rw [HD.out]
    clear hk hcv
    go_wp2_with fail
    generalize (((w.alloc (.cells #[.int .u8 x.kind, .slice A x.path.length c, .slice B x.dest.length d, .string x.data] 46)).alloc (.cells #[.int .u8 0, .int .i64 0, .string ⟨#[]⟩] 52)).alloc (.cells #[.int .u8 0, .int .i64 0, .string ⟨#[]⟩] 52)) = W0 at *
    have hc1 := read_api W0 g O tb f HF0.out hgO hbt htl A c x.path HP0.out hc hpB
    rw [show callV f 2 ⟨x.path, [], ⟨#[]⟩⟩ = (f1, tl, wy) from HCV.out] at hc1
    refine hc1.mono ?_
    clear hc1
    rintro e w1 ⟨rfl, hp1⟩
    have HP1 := Lib.hid (FsPost.mid (w := w) hp1)
    have hk1 : ∀ j, w.heap.size ≤ j → j < W0.heap.size → w1.heap[j]? = W0.heap[j]? := fun j h1 h2 => hp1.2.block j h2 fun h => by
      rcases h with h | h
      · omega
      · have := htbl j h; omega
    have H11 := Lib.hid ((hk1 (w.heap.size + 1) (by omega) (by omega)).trans H1.out)
    have H12 := Lib.hid ((hk1 (w.heap.size + 2) (by omega) (by omega)).trans H2.out)
    clear hp1 hk1 l0 l1 l2 l3
    have e0 := cell_of (j := 0) H12.out rfl
    have g0 := unfr H12.out 0
    have n0 := cell_of (j := 0) H11.out rfl
    have m0 := unfr H11.out 0
    have e1 := cell_of (j := 1) H12.out rfl
    have g1 := unfr H12.out 1
    have n1 := cell_of (j := 1) H11.out rfl
    have m1 := unfr H11.out 1
    have e2 := cell_of (j := 2) H12.out rfl
    have g2 := unfr H12.out 2
    have n2 := cell_of (j := 2) H11.out rfl
    have m2 := unfr H11.out 2
    have H22 := Lib.hid (blk_put H12.out 2 (.string tl.data) rfl)
    have H21 := Lib.hid ((Below.heap_setCell w1 ⟨w.heap.size + 2, 2, none⟩ (.string tl.data) (w.heap.size + 1) (by simp only; omega)).trans H11.out)
    have HM2 := Lib.hid (HP1.out.put (p := ⟨w.heap.size + 2, 2, none⟩) (by simp only; omega) (by simp only; omega) hgl hlts (.string tl.data))
    obtain ⟨W2, hW2⟩ : ∃ W, (w1.setCell ⟨w.heap.size + 2, 2, none⟩ (.string tl.data)) = W := ⟨_, rfl⟩
    rw [hW2] at H22 H21 HM2
    have e02 := cell_of (j := 0) H22.out rfl
    have n02 := cell_of (j := 0) H21.out rfl
    have m02 := unfr H21.out 0
    have e12 := cell_of (j := 1) H22.out rfl
    have n12 := cell_of (j := 1) H21.out rfl
    have m12 := unfr H21.out 1
    have e22 := cell_of (j := 2) H22.out rfl
    have n22 := cell_of (j := 2) H21.out rfl
    have m22 := unfr H21.out 2
    go_wp2_with fail
    refine bodyPost_ret (results_ct rfl _ _ (w.heap.size + 1) 52 #[.int .u8 0, .int .i64 0, .string tl.data] (0, 0) _ rfl (blk_put (blk_put (blk_put H21.out 0 (.int .u8 0) rfl) 1 (.int .i64 0) rfl) 2 (.string tl.data) rfl) Tryd.underlying52 rfl (by kernel_rfl)) rfl ?_
    exact ⟨rfl, FsMid.done (((HM2.out.put (p := ⟨w.heap.size + 1, 0, none⟩) (by simp only; omega) (by simp only; omega) hgl hlts (.int .u8 0)).put (p := ⟨w.heap.size + 1, 1, none⟩) (by simp only; omega) (by simp only; omega) hgl hlts (.int .i64 0)).put (p := ⟨w.heap.size + 1, 2, none⟩) (by simp only; omega) (by simp only; omega) hgl hlts (.string tl.data)) HFS.out HB0.out⟩
  · skip
    have b1 : (x.kind == 1) = false := beq_eq_false_iff_ne.2 (by omega)
    have b2 : (x.kind == 2) = false := beq_eq_false_iff_ne.2 (by omega)
    have b3 : (x.kind == 3) = true := beq_iff_eq.2 hk
    obtain ⟨⟨f1, tl, wy⟩, hcv⟩ : ∃ r, callV f 3 ⟨x.path, [], ⟨#[]⟩⟩ = r := ⟨_, rfl⟩
    have HD := Lib.hid (show doV f x = (f1, told0 ⟨#[]⟩, wy) from by
      unfold doV
      rw [if_neg (by omega)]
      rw [if_neg (by omega)]
      rw [if_pos hk]
      rw [hcv])
    have HCV := Lib.hid hcv
    rw [HD.out]
    clear hk hcv
    go_wp2_with fail
    generalize (((w.alloc (.cells #[.int .u8 x.kind, .slice A x.path.length c, .slice B x.dest.length d, .string x.data] 46)).alloc (.cells #[.int .u8 0, .int .i64 0, .string ⟨#[]⟩] 52)).alloc (.cells #[.int .u8 0, .int .i64 0, .string ⟨#[]⟩] 52)) = W0 at *
    have hc1 := create_api W0 g O tb f HF0.out hgO hbt htl A c x.path HP0.out hc hpB
    rw [show callV f 3 ⟨x.path, [], ⟨#[]⟩⟩ = (f1, tl, wy) from HCV.out] at hc1
    refine hc1.mono ?_
    clear hc1
    rintro e w1 ⟨rfl, hp1⟩
    have HP1 := Lib.hid (FsPost.mid (w := w) hp1)
    have hk1 : ∀ j, w.heap.size ≤ j → j < W0.heap.size → w1.heap[j]? = W0.heap[j]? := fun j h1 h2 => hp1.2.block j h2 fun h => by
      rcases h with h | h
      · omega
      · have := htbl j h; omega
    have H11 := Lib.hid ((hk1 (w.heap.size + 1) (by omega) (by omega)).trans H1.out)
    have H12 := Lib.hid ((hk1 (w.heap.size + 2) (by omega) (by omega)).trans H2.out)
    clear hp1 hk1 l0 l1 l2 l3
    have e0 := cell_of (j := 0) H12.out rfl
    have g0 := unfr H12.out 0
    have n0 := cell_of (j := 0) H11.out rfl
    have m0 := unfr H11.out 0
    have e1 := cell_of (j := 1) H12.out rfl
    have g1 := unfr H12.out 1
    have n1 := cell_of (j := 1) H11.out rfl
    have m1 := unfr H11.out 1
    have e2 := cell_of (j := 2) H12.out rfl
    have g2 := unfr H12.out 2
    have n2 := cell_of (j := 2) H11.out rfl
    have m2 := unfr H11.out 2
    have H22 := H12
    have H21 := H11
    have HM2 := HP1
    go_wp2_with fail
    refine bodyPost_ret (results_ct rfl _ _ (w.heap.size + 1) 52 #[.int .u8 0, .int .i64 0, .string ⟨#[]⟩] (0, 0) _ rfl (blk_put (blk_put (blk_put H21.out 0 (.int .u8 0) rfl) 1 (.int .i64 0) rfl) 2 (.string ⟨#[]⟩) rfl) Tryd.underlying52 rfl (by kernel_rfl)) rfl ?_
    exact ⟨rfl, FsMid.done (((HM2.out.put (p := ⟨w.heap.size + 1, 0, none⟩) (by simp only; omega) (by simp only; omega) hgl hlts (.int .u8 0)).put (p := ⟨w.heap.size + 1, 1, none⟩) (by simp only; omega) (by simp only; omega) hgl hlts (.int .i64 0)).put (p := ⟨w.heap.size + 1, 2, none⟩) (by simp only; omega) (by simp only; omega) hgl hlts (.string ⟨#[]⟩)) HFS.out HB0.out⟩
  · skip
    have b1 : (x.kind == 1) = false := beq_eq_false_iff_ne.2 (by omega)
    have b2 : (x.kind == 2) = false := beq_eq_false_iff_ne.2 (by omega)
    have b3 : (x.kind == 3) = false := beq_eq_false_iff_ne.2 (by omega)
    have b4 : (x.kind == 4) = true := beq_iff_eq.2 hk
    obtain ⟨⟨f1, tl, wy⟩, hcv⟩ : ∃ r, callV f 4 ⟨x.path, [], x.data⟩ = r := ⟨_, rfl⟩
    have HD := Lib.hid (show doV f x = (f1, told0 ⟨#[]⟩, wy) from by
      unfold doV
      rw [if_neg (by omega)]
      rw [if_neg (by omega)]
      rw [if_neg (by omega)]
      rw [if_pos hk]
      rw [hcv])
    have HCV := Lib.hid hcv
    rw [HD.out]
    clear hk hcv
    go_wp2_with fail
    generalize (((w.alloc (.cells #[.int .u8 x.kind, .slice A x.path.length c, .slice B x.dest.length d, .string x.data] 46)).alloc (.cells #[.int .u8 0, .int .i64 0, .string ⟨#[]⟩] 52)).alloc (.cells #[.int .u8 0, .int .i64 0, .string ⟨#[]⟩] 52)) = W0 at *
    have hc1 := append_api W0 g O tb f HF0.out hgO hbt htl A c x.path HP0.out hc hpB x.data hdb
    rw [show callV f 4 ⟨x.path, [], x.data⟩ = (f1, tl, wy) from HCV.out] at hc1
    refine hc1.mono ?_
    clear hc1
    rintro e w1 ⟨rfl, hp1⟩
    have HP1 := Lib.hid (FsPost.mid (w := w) hp1)
    have hk1 : ∀ j, w.heap.size ≤ j → j < W0.heap.size → w1.heap[j]? = W0.heap[j]? := fun j h1 h2 => hp1.2.block j h2 fun h => by
      rcases h with h | h
      · omega
      · have := htbl j h; omega
    have H11 := Lib.hid ((hk1 (w.heap.size + 1) (by omega) (by omega)).trans H1.out)
    have H12 := Lib.hid ((hk1 (w.heap.size + 2) (by omega) (by omega)).trans H2.out)
    clear hp1 hk1 l0 l1 l2 l3
    have e0 := cell_of (j := 0) H12.out rfl
    have g0 := unfr H12.out 0
    have n0 := cell_of (j := 0) H11.out rfl
    have m0 := unfr H11.out 0
    have e1 := cell_of (j := 1) H12.out rfl
    have g1 := unfr H12.out 1
    have n1 := cell_of (j := 1) H11.out rfl
    have m1 := unfr H11.out 1
    have e2 := cell_of (j := 2) H12.out rfl
    have g2 := unfr H12.out 2
    have n2 := cell_of (j := 2) H11.out rfl
    have m2 := unfr H11.out 2
    have H22 := H12
    have H21 := H11
    have HM2 := HP1
    go_wp2_with fail
    refine bodyPost_ret (results_ct rfl _ _ (w.heap.size + 1) 52 #[.int .u8 0, .int .i64 0, .string ⟨#[]⟩] (0, 0) _ rfl (blk_put (blk_put (blk_put H21.out 0 (.int .u8 0) rfl) 1 (.int .i64 0) rfl) 2 (.string ⟨#[]⟩) rfl) Tryd.underlying52 rfl (by kernel_rfl)) rfl ?_
    exact ⟨rfl, FsMid.done (((HM2.out.put (p := ⟨w.heap.size + 1, 0, none⟩) (by simp only; omega) (by simp only; omega) hgl hlts (.int .u8 0)).put (p := ⟨w.heap.size + 1, 1, none⟩) (by simp only; omega) (by simp only; omega) hgl hlts (.int .i64 0)).put (p := ⟨w.heap.size + 1, 2, none⟩) (by simp only; omega) (by simp only; omega) hgl hlts (.string ⟨#[]⟩)) HFS.out HB0.out⟩
  · skip
    have b1 : (x.kind == 1) = false := beq_eq_false_iff_ne.2 (by omega)
    have b2 : (x.kind == 2) = false := beq_eq_false_iff_ne.2 (by omega)
    have b3 : (x.kind == 3) = false := beq_eq_false_iff_ne.2 (by omega)
    have b4 : (x.kind == 4) = false := beq_eq_false_iff_ne.2 (by omega)
    have b5 : (x.kind == 5) = true := beq_iff_eq.2 hk
    obtain ⟨⟨f1, tl, wy⟩, hcv⟩ : ∃ r, callV f 5 ⟨x.path, x.dest, ⟨#[]⟩⟩ = r := ⟨_, rfl⟩
    have HD := Lib.hid (show doV f x = (f1, told0 ⟨#[]⟩, wy) from by
      unfold doV
      rw [if_neg (by omega)]
      rw [if_neg (by omega)]
      rw [if_neg (by omega)]
      rw [if_neg (by omega)]
      rw [if_pos hk]
      rw [hcv])
    have HCV := Lib.hid hcv
    rw [HD.out]
    clear hk hcv
    go_wp2_with fail
    generalize (((w.alloc (.cells #[.int .u8 x.kind, .slice A x.path.length c, .slice B x.dest.length d, .string x.data] 46)).alloc (.cells #[.int .u8 0, .int .i64 0, .string ⟨#[]⟩] 52)).alloc (.cells #[.int .u8 0, .int .i64 0, .string ⟨#[]⟩] 52)) = W0 at *
    have hc1 := rename_api W0 g O tb f HF0.out hgO hbt htl A c x.path HP0.out hc hpB B d x.dest HQ0.out hd hqB
    rw [show callV f 5 ⟨x.path, x.dest, ⟨#[]⟩⟩ = (f1, tl, wy) from HCV.out] at hc1
    refine hc1.mono ?_
    clear hc1
    rintro e w1 ⟨rfl, hp1⟩
    have HP1 := Lib.hid (FsPost.mid (w := w) hp1)
    have hk1 : ∀ j, w.heap.size ≤ j → j < W0.heap.size → w1.heap[j]? = W0.heap[j]? := fun j h1 h2 => hp1.2.block j h2 fun h => by
      rcases h with h | h
      · omega
      · have := htbl j h; omega
    have H11 := Lib.hid ((hk1 (w.heap.size + 1) (by omega) (by omega)).trans H1.out)
    have H12 := Lib.hid ((hk1 (w.heap.size + 2) (by omega) (by omega)).trans H2.out)
    clear hp1 hk1 l0 l1 l2 l3
    have e0 := cell_of (j := 0) H12.out rfl
    have g0 := unfr H12.out 0
    have n0 := cell_of (j := 0) H11.out rfl
    have m0 := unfr H11.out 0
    have e1 := cell_of (j := 1) H12.out rfl
    have g1 := unfr H12.out 1
    have n1 := cell_of (j := 1) H11.out rfl
    have m1 := unfr H11.out 1
    have e2 := cell_of (j := 2) H12.out rfl
    have g2 := unfr H12.out 2
    have n2 := cell_of (j := 2) H11.out rfl
    have m2 := unfr H11.out 2
    have H22 := H12
    have H21 := H11
    have HM2 := HP1
    go_wp2_with fail
    refine bodyPost_ret (results_ct rfl _ _ (w.heap.size + 1) 52 #[.int .u8 0, .int .i64 0, .string ⟨#[]⟩] (0, 0) _ rfl (blk_put (blk_put (blk_put H21.out 0 (.int .u8 0) rfl) 1 (.int .i64 0) rfl) 2 (.string ⟨#[]⟩) rfl) Tryd.underlying52 rfl (by kernel_rfl)) rfl ?_
    exact ⟨rfl, FsMid.done (((HM2.out.put (p := ⟨w.heap.size + 1, 0, none⟩) (by simp only; omega) (by simp only; omega) hgl hlts (.int .u8 0)).put (p := ⟨w.heap.size + 1, 1, none⟩) (by simp only; omega) (by simp only; omega) hgl hlts (.int .i64 0)).put (p := ⟨w.heap.size + 1, 2, none⟩) (by simp only; omega) (by simp only; omega) hgl hlts (.string ⟨#[]⟩)) HFS.out HB0.out⟩
  · skip
    have HD := Lib.hid (show doV f x = (f, told0 ⟨#[]⟩, 0) from by
      unfold doV
      rw [if_neg k1, if_neg k2, if_neg k3, if_neg k4, if_neg k5])
    rw [HD.out]
    have b1 : (x.kind == 1) = false := beq_eq_false_iff_ne.2 k1
    clear k1
    have b2 : (x.kind == 2) = false := beq_eq_false_iff_ne.2 k2
    clear k2
    have b3 : (x.kind == 3) = false := beq_eq_false_iff_ne.2 k3
    clear k3
    have b4 : (x.kind == 4) = false := beq_eq_false_iff_ne.2 k4
    clear k4
    have b5 : (x.kind == 5) = false := beq_eq_false_iff_ne.2 k5
    clear k5
    have e0 := cell_of (j := 0) H2.out rfl
    have n0 := cell_of (j := 0) H1.out rfl
    have m0 := unfr H1.out 0
    have e1 := cell_of (j := 1) H2.out rfl
    have n1 := cell_of (j := 1) H1.out rfl
    have m1 := unfr H1.out 1
    have e2 := cell_of (j := 2) H2.out rfl
    have n2 := cell_of (j := 2) H1.out rfl
    have m2 := unfr H1.out 2
    go_wp2_with fail
    generalize (((w.alloc (.cells #[.int .u8 x.kind, .slice A x.path.length c, .slice B x.dest.length d, .string x.data] 46)).alloc (.cells #[.int .u8 0, .int .i64 0, .string ⟨#[]⟩] 52)).alloc (.cells #[.int .u8 0, .int .i64 0, .string ⟨#[]⟩] 52)) = W0 at *
    refine bodyPost_ret (results_ct rfl _ _ (w.heap.size + 1) 52 #[.int .u8 0, .int .i64 0, .string ⟨#[]⟩] (0, 0) _ rfl H1.out Tryd.underlying52 rfl (by kernel_rfl)) rfl ?_
    exact ⟨rfl, FsMid.done (show FsMid w W0 g O tb f W0 from ⟨⟨tb, .inl rfl, HF0.out.mono (fun k h => .inl h) (fun k h => h.elim (fun h => HF0.out.lts k h) fun h => h.2)⟩, Only.of_belowV (Below.refl _ _) _⟩) HFS.out HB0.out⟩
/-- calls: is a step one of the five? -/
def oneOf (x : Step) : Bool := decide (1 ≤ x.kind ∧ x.kind ≤ 5)
theorem results_c1 {P : Program} {fn : Func} {p : Tmp} {ty : TypeId} (h : fn.results = #[.cell p ty]) (tmps : Array Value) (w : World) (g : Nat) (t : TypeId) (cs : Array Value) (fr : Nat × Nat) (d : TypeDesc)
    (hp : tmps.getD p undef = .pointer (some ⟨g, 0, none⟩)) (hg : w.heap[g]? = some (.cells cs t fr))
    (hu : P.underlying ty = some d) (hd : (match d with | .struct _ | .array _ _ => true | _ => false) = true) (hi : (P.info? ty).map (·.size) = some cs.size) :
    (results fn tmps).run P w = .ok (.agg cs) w := by
  have hp' : tmps[p]?.getD undef = .pointer (some ⟨g, 0, none⟩) := by simpa using hp
  simp [results, h, hp', asAddr, run_loadVar_row w g t ty cs fr d hg hu hd hi]
set_option maxHeartbeats 4000000 in
set_option maxRecDepth 100000 in
theorem tree_api (w : World) (g : Nat) (O : Nat → Prop) (tb : Option Nat) (f : FsV) (hfs : FsAt w g O tb f) (hbt : f.tree.bulk ≤ 1099511627776) :
    Calls Tryd.prog 23 #[.pointer (some ⟨g, 0, none⟩)] w fun e w' => ∃ A c, e = .returned (fileV f.tree A c) ∧ f.tree.files.length ≤ c ∧ FileK.R 25 w' w.heap.size (fun _ => True) (.slice A f.tree.files.length c) f.tree.files ∧ Below w.heap.size w w' := by
  have HFS := Lib.hid hfs
  obtain ⟨A, c, v, m, lo, hi, hbox, hle, hiv, hsep, htr, htb, hfl, hOm, hOlt⟩ := hfs
  unfold fsCells at hbox
  have HS := Lib.hid (fun W (h : Below w.heap.size w W) => hiv W fun k h1 h2 => h.block k (hOlt k (hsep k h1 h2).1))
  have hgl := blk_lt hbox
  have hb0 := below_alloc (Below.refl w.heap.size w) (.cells #[.string ⟨#[]⟩, .int .u8 0, .string ⟨#[]⟩, .slice none 0 0] 25)
  have HBG := Lib.hid ((hb0.block g hgl).trans hbox)
  have HZ0 := Lib.hid (blk_new w (.cells #[.string ⟨#[]⟩, .int .u8 0, .string ⟨#[]⟩, .slice none 0 0] 25))
  have HB0 := Lib.hid hb0
  clear hbox hiv hsep htr htb hfl hOm hOlt
  go_enter Tryd.func23, Tryd.ntmps23
  have l0 := cell_of (j := 0) HBG.out rfl
  have l1 := cell_of (j := 1) HBG.out rfl
  have l2 := cell_of (j := 2) HBG.out rfl
  have l3 := cell_of (j := 3) HBG.out rfl
  have l4 := cell_of (j := 4) HBG.out rfl
  have l5 := cell_of (j := 5) HBG.out rfl
  go_wp2_with fail
  clear l0 l1 l2 l3 l4 l5
  generalize (w.alloc (.cells #[.string ⟨#[]⟩, .int .u8 0, .string ⟨#[]⟩, .slice none 0 0] 25)) = W0 at *
  have hs0 := HB0.out.size
  have hz0 := blk_lt HZ0.out
  refine (show Calls Tryd.prog 42 #[.agg #[.string f.tree.name, .int .u8 f.tree.kind, .string f.tree.data, .slice A f.tree.files.length c]] _ _ from copy_file f.tree.bulk f.tree A c W0 (Nat.le_refl _) (by omega) (HS.out _ HB0.out) hle).mono ?_
  rintro e w1 ⟨v2, rfl, hR2, hq1⟩
  have HR2 := Lib.hid hR2
  obtain ⟨A2, c2, rfl, hc2, hC2⟩ := Kd.R_reads hR2
  clear hR2 hC2
  have HZ1 := Lib.hid ((hq1.block _ hz0).trans HZ0.out)
  have hb1 := HB0.out.trans (hq1.mono hs0)
  have z0 := cell_of (j := 0) HZ1.out rfl
  have u0 := unfr HZ1.out 0
  have z1 := cell_of (j := 1) HZ1.out rfl
  have u1 := unfr HZ1.out 1
  have z2 := cell_of (j := 2) HZ1.out rfl
  have u2 := unfr HZ1.out 2
  have z3 := cell_of (j := 3) HZ1.out rfl
  have u3 := unfr HZ1.out 3
  go_wp2_with fail
  have HZ9 := Lib.hid (store4_box HZ1.out (.string f.tree.name) (.int .u8 f.tree.kind) (.string f.tree.data) (.slice A2 f.tree.files.length c2))
  refine bodyPost_ret (results_c1 rfl _ _ w.heap.size 25 #[.string f.tree.name, .int .u8 f.tree.kind, .string f.tree.data, .slice A2 f.tree.files.length c2] (0, 0) _ rfl HZ9.out Tryd.underlying25 rfl (by kernel_rfl)) rfl ?_
  exact ⟨A2, c2, rfl, hc2, Kd.R_mono (Kd.R_lower (Kd.R_step (Kd.R_bound HR2.out) fun k hk _ => store4_other w1 (g := w.heap.size) (by have := hk.2.1; omega) (.string f.tree.name) (.int .u8 f.tree.kind) (.string f.tree.data) (.slice A2 f.tree.files.length c2)) hs0) (fun _ _ => trivial), store4_below hb1 (Nat.le_refl _) (.string f.tree.name) (.int .u8 f.tree.kind) (.string f.tree.data) (.slice A2 f.tree.files.length c2)⟩
end Go.Proofs.YthlcjjhfkldmhaaDoor.G
end
section
namespace Go.Proofs.YthlcjjhfkldmhaaDoor.G
open Go.RowKit Go.Lib Go.Proofs.YthlcjjhfkldmhaaDoorW.PrintWords Go.Proofs.YthlcjjhfkldmhaaDoorW.PrintLast
set_option linter.unusedVariables false
set_option linter.unusedSimpArgs false

/-- The request of a step. -/
def reqOf (x : Step) : Req := ⟨x.path, if x.kind = 5 then x.dest else [], if x.kind = 4 then x.data else ⟨#[]⟩⟩
/-- What a step answers, of what the call tells. -/
def ansOf (k : Int) (r : Told × Int) : Told × Int := (if k = 1 then ⟨r.1.kind, r.1.size, ⟨#[]⟩⟩ else if k = 2 then told0 r.1.data else told0 ⟨#[]⟩, r.2)
theorem do_call (f : FsV) (x : Step) (hx : oneOf x = true) : (doV f x).1 = (callV f x.kind (reqOf x)).1 ∧ (doV f x).2 = ansOf x.kind (callV f x.kind (reqOf x)).2 := by
  obtain ⟨k, p, q, d⟩ := x
  have hk : k = 1 ∨ k = 2 ∨ k = 3 ∨ k = 4 ∨ k = 5 := by
    simp only [oneOf, decide_eq_true_iff] at hx
    omega
  rcases hk with rfl | rfl | rfl | rfl | rfl <;> exact ⟨rfl, rfl⟩
theorem reqOf_data (x : Step) : (reqOf x).data.size ≤ x.data.size := by
  unfold reqOf
  simp only
  split
  · exact Nat.le_refl _
  · exact Nat.zero_le _
theorem do_grows (f : FsV) (x : Step) (ht : rightT f.tree = true) : rightT (doV f x).1.tree = true ∧ (doV f x).1.tree.bulk ≤ f.tree.bulk + x.data.size + 259 ∧ (doV f x).1.trace.length ≤ f.trace.length + 1 ∧ (doV f x).1.faults = f.faults := by
  by_cases hx : oneOf x = true
  · rw [(do_call f x hx).1]
    obtain ⟨h1, h2, h3, h4⟩ := call_grows f x.kind (reqOf x) ht
    have := reqOf_data x
    exact ⟨h1, by omega, h3, h4⟩
  · have h : doV f x = (f, told0 ⟨#[]⟩, 0) := by
      simp only [oneOf, decide_eq_true_iff] at hx
      unfold doV
      rw [if_neg (by omega), if_neg (by omega), if_neg (by omega), if_neg (by omega), if_neg (by omega)]
    rw [h]
    exact ⟨ht, by simp only; omega, by simp only; omega, rfl⟩
end Go.Proofs.YthlcjjhfkldmhaaDoor.G
end
