/- (*vfs.Fs).put. Printed by wip/tools/gen_vput.py. -/
import Derived.Test.YthlcjjhfkldmhaaDoorVWalk
import Derived.Test.YthlcjjhfkldmhaaDoorTRight
import Derived.Test.YthlcjjhfkldmhaaDoorVMem
import Derived.Test.YthlcjjhfkldmhaaDoorVFaults
import Derived.Test.YthlcjjhfkldmhaaDoorVHd
set_option linter.unusedVariables false
set_option linter.unusedSimpArgs false
section
namespace Go.Proofs.YthlcjjhfkldmhaaDoor.G
open Go.RowKit Go.Lib Go.Proofs.YthlcjjhfkldmhaaDoorW.PrintWords Go.Proofs.YthlcjjhfkldmhaaDoorW.PrintLast
set_option linter.unusedVariables false
set_option linter.unusedSimpArgs false

theorem check_why (t : File) : (checkR t).1 = 0 ∨ (checkR t).1 = 30 := by
  unfold checkR
  split
  · cases wrongN t.bulk t [] with
    | none => exact .inl rfl
    | some b => exact .inr rfl
  · exact .inr rfl
end Go.Proofs.YthlcjjhfkldmhaaDoor.G
end
section
namespace Go.Proofs.YthlcjjhfkldmhaaDoor.G
open Go.RowKit Go.Lib Go.Proofs.YthlcjjhfkldmhaaDoorW.PrintWords Go.Proofs.YthlcjjhfkldmhaaDoorW.PrintLast
set_option linter.unusedVariables false
set_option linter.unusedSimpArgs false

/-- The cells of a file system. -/
def fsCells (t : File) (A : Option Addr) (c : Nat) (v : Value) (m : Nat) : Array Value := #[.string t.name, .int .u8 t.kind, .string t.data, .slice A t.files.length c, v, .map (some m)]
/-- The file system f lies in block g; what it leads to lies in O; tb is its trace's block. -/
def FsAt (w : World) (g : Nat) (O : Nat → Prop) (tb : Option Nat) (f : FsV) : Prop := ∃ (A : Option Addr) (c : Nat) (v : Value) (m lo hi : Nat),
  w.heap[g]? = some (.cells (fsCells f.tree A c v m) 86 (0, 0)) ∧ f.tree.files.length ≤ c ∧ Iv lo hi w (fun W => FileK.C W A f.tree.files.length f.tree.files) ∧ (∀ k, lo ≤ k → k < hi → O k ∧ k ≠ g ∧ tb ≠ some k) ∧
  CallK.R 59 w 0 O v f.trace ∧ v.ownBlock = tb ∧ Faulted w m f.faults ∧ O m ∧ ∀ k, O k → k < w.heap.size
theorem FsAt.keep {w w' : World} {g : Nat} {O : Nat → Prop} {tb : Option Nat} {f : FsV} (h : FsAt w g O tb f) (hk : ∀ k, k = g ∨ O k → w'.heap[k]? = w.heap[k]?) (hs : w.heap.size ≤ w'.heap.size) : FsAt w' g O tb f := by
  obtain ⟨A, c, v, m, lo, hi, h1, h2, h3, h4, h5, h6, h7, h8, h9⟩ := h
  exact ⟨A, c, v, m, lo, hi, (hk g (.inl rfl)).trans h1, h2, h3.mv fun k a b => hk k (.inr (h4 k a b).1), h4, Kd.R_move h5 fun k a => hk k (.inr a), h6, h7.mv (hk m (.inr h8)), h8, fun k a => Nat.lt_of_lt_of_le (h9 k a) hs⟩
theorem FsAt.lt {w : World} {g : Nat} {O : Nat → Prop} {tb : Option Nat} {f : FsV} (h : FsAt w g O tb f) : g < w.heap.size := by
  obtain ⟨A, c, v, m, lo, hi, h1, _⟩ := h
  exact blk_lt h1
theorem FsAt.below {w w' : World} {g : Nat} {O : Nat → Prop} {tb : Option Nat} {f : FsV} (h : FsAt w g O tb f) (hb : Below w.heap.size w w') : FsAt w' g O tb f := by
  have hl := h.lt
  have h9 : ∀ k, O k → k < w.heap.size := by
    obtain ⟨A, c, v, m, lo, hi, _, _, _, _, _, _, _, _, h9⟩ := h
    exact h9
  exact h.keep (fun k hk => hb.block k (hk.elim (fun e => e ▸ hl) (h9 k))) hb.size
theorem FsAt.lts {w : World} {g : Nat} {O : Nat → Prop} {tb : Option Nat} {f : FsV} (h : FsAt w g O tb f) : ∀ k, O k → k < w.heap.size := by
  obtain ⟨A, c, v, m, lo, hi, _, _, _, _, _, _, _, _, h9⟩ := h
  exact h9
theorem FsAt.mono {w : World} {g : Nat} {O O' : Nat → Prop} {tb : Option Nat} {f : FsV} (h : FsAt w g O tb f) (hO : ∀ k, O k → O' k) (hl : ∀ k, O' k → k < w.heap.size) : FsAt w g O' tb f := by
  obtain ⟨A, c, v, m, lo, hi, h1, h2, h3, h4, h5, h6, h7, h8, h9⟩ := h
  exact ⟨A, c, v, m, lo, hi, h1, h2, h3, fun k a b => ⟨hO k (h4 k a b).1, (h4 k a b).2⟩, Kd.R_mono h5 hO, h6, h7, hO m h8, hl⟩
theorem Faulted.ne {W : World} {m g : Nat} {l : List Int} {cs : Array Value} {t : TypeId} (h : Faulted W m l) (hb : W.heap[g]? = some (.cells cs t (0, 0))) : m ≠ g := by
  obtain ⟨es, clock, h1, _⟩ := h
  rintro rfl
  rw [h1] at hb
  cases hb
theorem Faulted.iff {W : World} {m : Nat} {l l' : List Int} (h : Faulted W m l) (hi : ∀ n, n ∈ l ↔ n ∈ l') : Faulted W m l' := by
  obtain ⟨es, clock, h1, h2, h3⟩ := h
  exact ⟨es, clock, h1, h2, fun n => (h3 n).trans (hi n)⟩
theorem Faulted.made (w : World) : Faulted (w.alloc (.map #[] 0)) w.heap.size [] := ⟨#[], 0, World.alloc_heap_new w _, fun x hx => by simp at hx, fun n => by simp⟩
end Go.Proofs.YthlcjjhfkldmhaaDoor.G
end
section
namespace Go.Proofs.YthlcjjhfkldmhaaDoor.G
open Go.RowKit Go.Lib Go.Proofs.YthlcjjhfkldmhaaDoorW.PrintWords Go.Proofs.YthlcjjhfkldmhaaDoorW.PrintLast
set_option linter.unusedVariables false
set_option linter.unusedSimpArgs false

/-- Those that have come up, as bits. -/
def bf (n m : Nat) : Array Bool := ((List.range n).map (fun j => m.testBit j)).toArray
theorem store4_box6 {W : World} {g : Nat} {a b c d x y : Value} {t : TypeId} (h : W.heap[g]? = some (.cells #[a, b, c, d, x, y] t (0, 0))) (v0 v1 v2 v3 : Value) :
    ((((W.setCell ⟨g, 0, none⟩ v0).setCell ⟨g, 1, none⟩ v1).setCell ⟨g, 2, none⟩ v2).setCell ⟨g, 3, none⟩ v3).heap[g]? = some (.cells #[v0, v1, v2, v3, x, y] t (0, 0)) :=
  blk_put (blk_put (blk_put (blk_put h 0 v0 rfl) 1 v1 rfl) 2 v2 rfl) 3 v3 rfl
theorem Only.of_belowV {X Y : World} (h : Below X.heap.size X Y) (F : Nat → Prop) : Only F X Y := ⟨h.os, h.tape, h.output, h.size, fun k hk _ => h.block k hk⟩
theorem only4 (W : World) (g : Nat) (v0 v1 v2 v3 : Value) : Only (fun k => k = g) W ((((W.setCell ⟨g, 0, none⟩ v0).setCell ⟨g, 1, none⟩ v1).setCell ⟨g, 2, none⟩ v2).setCell ⟨g, 3, none⟩ v3) :=
  (((Only.setCell W ⟨g, 0, none⟩ v0).trans (Only.setCell _ ⟨g, 1, none⟩ v1) (fun _ _ h => h) (fun _ _ h => h)).trans (Only.setCell _ ⟨g, 2, none⟩ v2) (fun _ _ h => h) (fun _ _ h => h)).trans (Only.setCell _ ⟨g, 3, none⟩ v3) (fun _ _ h => h) (fun _ _ h => h)
set_option maxHeartbeats 8000000 in
set_option maxRecDepth 100000 in
theorem put_calls_fs (w : World) (g : Nat) (O : Nat → Prop) (tb : Option Nat) (f : FsV) (Ap : Option Addr) (cp : Nat) (p : List ByteArray) (s : File) (As : Option Addr) (cs : Nat) (hfs : FsAt w g O tb f) (hbt : f.tree.bulk ≤ 1000000000) (hp : Kd.C Kd.string w Ap p.length p) (hcp : p.length ≤ cp) (hpl : p.length ≤ 1000000000) (hn : ∀ n ∈ p, n.size ≤ 1000000000) (hs : FileK.C w As s.files.length s.files) (hcs : s.files.length ≤ cs) (hbs : s.bulk ≤ 1000000000) :
    Calls Tryd.prog 84 #[.pointer (some ⟨g, 0, none⟩), .slice Ap p.length cp, .agg #[.string s.name, .int .u8 s.kind, .string s.data, .slice As s.files.length cs]] w fun e w' => e = .returned (.int .i64 (putV f.tree p s).2) ∧ FsAt w' g (fun k => O k ∨ w.heap.size ≤ k ∧ k < w'.heap.size) tb { f with tree := (putV f.tree p s).1 } ∧ Only (fun k => k = g) w w' := by
  have HFS0 := Lib.hid hfs
  obtain ⟨A, c, v, m, lo, hi, hbox, hle, hiv, hsep, htr, htb, hfl, hOm, hOlt⟩ := hfs
  unfold fsCells at hbox
  have hb0 := below_alloc (Below.refl w.heap.size w) (.cells #[.string s.name, .int .u8 s.kind, .string s.data, .slice As s.files.length cs] 25)
  have hgl := blk_lt hbox
  have HS := Lib.hid (fun W (h : Below w.heap.size w W) => hiv W fun k h1 h2 => h.block k (hOlt k (hsep k h1 h2).1))
  have HFSK := Lib.hid (And.intro hle (And.intro hiv (And.intro hsep (And.intro htr (And.intro htb (And.intro hfl (And.intro hOm hOlt)))))))
  have I := Lib.hid (Hd.base hb0 (by first | exact Nat.le_refl _ | exact Below.size hb0))
  replace I := Lib.hid (Hd.and I.out (Hd.box (blk_new w (.cells #[.string s.name, .int .u8 s.kind, .string s.data, .slice As s.files.length cs] 25))))
  replace I := Lib.hid (Hd.and I.out (Hd.box ((hb0.block g hgl).trans hbox)))
  replace I := Lib.hid (Hd.and I.out (Hd.reads (Kd.C_below hp hb0)))
  replace I := Lib.hid (Hd.and I.out (Hd.reads (Kd.C_below hs hb0)))
  obtain ⟨⟨u, k⟩, hu⟩ : ∃ r, putA f.tree p s = r := ⟨_, rfl⟩
  have HU := Lib.hid hu
  clear hu hiv hsep htr hfl hOm hOlt hs hp hbox htb
  go_enter Tryd.func84, Tryd.ntmps84
  have ls0 := cell_of (j := 0) I.out.now.2.2.2.1 rfl
  have ls1 := cell_of (j := 1) I.out.now.2.2.2.1 rfl
  have ls2 := cell_of (j := 2) I.out.now.2.2.2.1 rfl
  have ls3 := cell_of (j := 3) I.out.now.2.2.2.1 rfl
  go_wp2_with fail
  clear ls0 ls1 ls2 ls3
  generalize (w.alloc (.cells #[.string s.name, .int .u8 s.kind, .string s.data, .slice As s.files.length cs] 25)) = W0 at *
  refine start_ (n := 13) (S := fun w' => w'.heap[g]? = some (.cells #[.string f.tree.name, .int .u8 f.tree.kind, .string f.tree.data, .slice A f.tree.files.length c, v, .map (some m)] 86 (0, 0)) ∧ w'.heap[w.heap.size]? = some (.cells #[.string s.name, .int .u8 s.kind, .string s.data, .slice As s.files.length cs] 25 (0, 0))) (ds := [11]) (bf 13 0) (by kernel_rfl) rfl rfl ⟨(I.out _ (bdrew (Below.refl W0.heap.size W0))).2.2.1, (I.out _ (bdrew (Below.refl W0.heap.size W0))).2.2.2.1⟩ (fun hHeld => ?_)
  refine pure_ (i := 0) (N := some 10) (v := ?_) (a' := ?_) (bf 13 1) rfl rfl (by kernel_rfl) (fun _ _ _ h => h) (Or.inl ⟨by rfl, ?_⟩) ?_ ?_
  rotate_left
  · intro w'
    go_simp
    with_reducible rfl
  rotate_left
  · simp only [Act.put, List.setIfInBounds_toArray, List.set_cons_zero, List.set_cons_succ, i64_w, i32_w]
    rfl
  refine pure_ (i := 1) (N := some 11) (v := ?_) (a' := ?_) (bf 13 3) rfl rfl (by kernel_rfl) (fun _ _ _ h => h) (Or.inl ⟨by rfl, ?_⟩) ?_ ?_
  rotate_left
  · intro w'
    go_simp
    with_reducible rfl
  rotate_left
  · simp only [Act.put, List.setIfInBounds_toArray, List.set_cons_zero, List.set_cons_succ, i64_w, i32_w]
    rfl
  refine pure_ (i := 2) (N := some 12) (v := ?_) (a' := ?_) (bf 13 7) rfl rfl (by kernel_rfl) (fun _ _ _ h => h) (Or.inl ⟨by rfl, ?_⟩) ?_ ?_
  rotate_left
  · intro w'
    go_simp
    with_reducible rfl
  rotate_left
  · simp only [Act.put, List.setIfInBounds_toArray, List.set_cons_zero, List.set_cons_succ, i64_w, i32_w]
    rfl
  refine pure_ (i := 4) (N := some 14) (v := ?_) (a' := ?_) (bf 13 23) rfl rfl (by kernel_rfl) (fun _ _ _ h => h) (Or.inl ⟨by rfl, ?_⟩) ?_ ?_
  rotate_left
  · intro w'
    go_simp
    with_reducible rfl
  rotate_left
  · simp only [Act.put, List.setIfInBounds_toArray, List.set_cons_zero, List.set_cons_succ, i64_w, i32_w]
    rfl
  refine take_ (i := 3) (N := some 13) (v := ?_) (a' := ?_) (bf 13 31) rfl rfl (by kernel_rfl) (fun _ _ _ h => h) (Or.inl ⟨by rfl, ?_⟩) hHeld ?_ ?_
  rotate_left
  · rintro w' ⟨s0, s1⟩
    have q0 := cell_of (j := 0) s0 rfl
    have q1 := cell_of (j := 1) s0 rfl
    have q2 := cell_of (j := 2) s0 rfl
    have q3 := cell_of (j := 3) s0 rfl
    have q4 := cell_of (j := 4) s0 rfl
    have q5 := cell_of (j := 5) s0 rfl
    go_simp
    with_reducible rfl
  rotate_left
  · simp only [Act.put, List.setIfInBounds_toArray, List.set_cons_zero, List.set_cons_succ, i64_w, i32_w]
    rfl
  refine take_ (i := 5) (N := some 15) (v := ?_) (a' := ?_) (bf 13 63) rfl rfl (by kernel_rfl) (fun _ _ _ h => h) (Or.inl ⟨by rfl, ?_⟩) hHeld ?_ ?_
  rotate_left
  · rintro w' ⟨s0, s1⟩
    have q0 := cell_of (j := 0) s1 rfl
    have q1 := cell_of (j := 1) s1 rfl
    have q2 := cell_of (j := 2) s1 rfl
    have q3 := cell_of (j := 3) s1 rfl
    go_simp
    with_reducible rfl
  rotate_left
  · simp only [Act.put, List.setIfInBounds_toArray, List.set_cons_zero, List.set_cons_succ, i64_w, i32_w]
    rfl
  refine join_ (σ := (Option Addr × Nat × Nat × Nat) × Nat) 2 (bf 13 2047) (fun s => match s with | ((A1, c1, lo1, hi1), gd) => [(16, .tuple #[.agg #[.string u.name, .int .u8 u.kind, .string u.data, .slice A1 u.files.length c1], .int .i64 k]), (9, .tuple #[.agg #[.string u.name, .int .u8 u.kind, .string u.data, .slice A1 u.files.length c1], .int .i64 k]), (17, .agg #[.string u.name, .int .u8 u.kind, .string u.data, .slice A1 u.files.length c1]), (18, .int .i64 k), (7, .pointer (some ⟨gd, 0, none⟩))]) (fun s W => match s with | ((A1, c1, lo1, hi1), gd) => Below W0.heap.size W0 W ∧ W0.heap.size ≤ gd ∧ W.heap[gd]? = some (.cells #[.string ⟨#[]⟩, .int .u8 0, .string ⟨#[]⟩, .slice none 0 0] 25 (0, 0)) ∧ u.files.length ≤ c1 ∧ Iv lo1 hi1 W (fun W => FileK.C W A1 u.files.length u.files) ∧ W0.heap.size ≤ lo1 ∧ hi1 ≤ W.heap.size ∧ (gd < lo1 ∨ hi1 ≤ gd)) ?_ ?_
  rotate_left
  · intro hc
    refine two_ (i := 6) (j := 10) (Ni := some 16) (Nj := some 7) (bf 13 127) (bf 13 1087) rfl rfl rfl rfl (by kernel_rfl) (by decide) (by decide) (fun K hK => ?_) (fun K hK => ?_)
    · refine goes_ Tryd.func87 (by kernel_rfl) rfl #[.agg #[.string f.tree.name, .int .u8 f.tree.kind, .string f.tree.data, .slice A f.tree.files.length c], .slice Ap p.length cp, .agg #[.string s.name, .int .u8 s.kind, .string s.data, .slice As s.files.length cs]] (by rfl) rfl rfl (by simp only [List.map_toArray, List.map_cons, List.map_nil]; rfl) ?_
      refine ((show Calls Tryd.prog 87 #[.agg #[.string f.tree.name, .int .u8 f.tree.kind, .string f.tree.data, .slice A f.tree.files.length c], .slice Ap p.length cp, .agg #[.string s.name, .int .u8 s.kind, .string s.data, .slice As s.files.length cs]] _ _ from putS f.tree s A As c cs Ap cp p _ (HS.out _ ((I.out _ (bdrew (Below.refl W0.heap.size W0))).2.2.2.2)) hle hbt (I.out _ (bdrew (Below.refl W0.heap.size W0))).2.1 hcp hpl (I.out _ (bdrew (Below.refl W0.heap.size W0))).1 hcs hbs hn)).mono ?_
      rw [HU.out]
      rintro e w5 ⟨⟨A1, c1, rfl, hc1, hC1⟩, hq5⟩
      refine ⟨_, rfl, ?_⟩
      refine hK.out _ _ (⟨(I.out _ ((bdrew (Below.refl W0.heap.size W0)).trans hq5)).2.2.1, (I.out _ ((bdrew (Below.refl W0.heap.size W0)).trans hq5)).2.2.2.1⟩) (fun _ => ?_)
      refine norm_ (a' := ?_) ?_ ?_
      rotate_left
      · show Act.put _ (some 16) _ = _
        simp only [Act.put, List.setIfInBounds_toArray, List.set_cons_zero, List.set_cons_succ, i64_w, i32_w]
        rfl
      refine pure_ (i := 7) (N := some 9) (v := ?_) (a' := ?_) (bf 13 255) rfl rfl (by kernel_rfl) (fun _ _ _ h => h) (Or.inl ⟨by rfl, ?_⟩) ?_ ?_
      rotate_left
      · intro w'
        go_simp
        with_reducible rfl
      rotate_left
      · simp only [Act.put, List.setIfInBounds_toArray, List.set_cons_zero, List.set_cons_succ, i64_w, i32_w]
        rfl
      refine pure_ (i := 8) (N := some 17) (v := ?_) (a' := ?_) (bf 13 511) rfl rfl (by kernel_rfl) (fun _ _ _ h => h) (Or.inl ⟨by rfl, ?_⟩) ?_ ?_
      rotate_left
      · intro w'
        go_simp
        with_reducible rfl
      rotate_left
      · simp only [Act.put, List.setIfInBounds_toArray, List.set_cons_zero, List.set_cons_succ, i64_w, i32_w]
        rfl
      refine pure_ (i := 9) (N := some 18) (v := ?_) (a' := ?_) (bf 13 1023) rfl rfl (by kernel_rfl) (fun _ _ _ h => h) (Or.inl ⟨by rfl, ?_⟩) ?_ ?_
      rotate_left
      · intro w'
        go_simp
        with_reducible rfl
      rotate_left
      · simp only [Act.put, List.setIfInBounds_toArray, List.set_cons_zero, List.set_cons_succ, i64_w, i32_w]
        rfl
      refine one_ (i := 10) (N := some 7) (bf 13 2047) rfl rfl (by kernel_rfl) (by decide) (fun K hK => ?_)
      refine value_ (w1 := ?_) (v := ?_) (by rfl) rfl ?_ ?_
      rotate_left 2
      · go_simp
        constructor
        · rfl
        · rfl
      refine hK.out _ _ (⟨(I.out _ (below_alloc ((bdrew (Below.refl W0.heap.size W0)).trans hq5) _)).2.2.1, (I.out _ (below_alloc ((bdrew (Below.refl W0.heap.size W0)).trans hq5) _)).2.2.2.1⟩) (fun _ => ?_)
      refine norm_ (a' := _) ?_ (hc ((A1, c1, W0.drew.heap.size, w5.heap.size), w5.heap.size) _ (⟨below_alloc ((bdrew (Below.refl W0.heap.size W0)).trans hq5) _, ((bdrew (Below.refl W0.heap.size W0)).trans hq5).size, blk_new w5 _, hc1, Iv.mv hC1 fun k _ h2 => (below_alloc (Below.refl w5.heap.size w5) _).block k h2, (bdrew (Below.refl W0.heap.size W0)).size, (below_alloc (Below.refl w5.heap.size w5) _).size, .inr (Nat.le_refl _)⟩))
      simp only [putAll, Act.put, List.setIfInBounds_toArray, List.set_cons_zero, List.set_cons_succ]
    · refine value_ (w1 := ?_) (v := ?_) (by rfl) rfl ?_ ?_
      rotate_left 2
      · go_simp
        constructor
        · rfl
        · rfl
      refine hK.out _ _ (⟨(I.out _ (below_alloc (bdrew (Below.refl W0.heap.size W0)) (.cells #[.string ⟨#[]⟩, .int .u8 0, .string ⟨#[]⟩, .slice none 0 0] 25))).2.2.1, (I.out _ (below_alloc (bdrew (Below.refl W0.heap.size W0)) (.cells #[.string ⟨#[]⟩, .int .u8 0, .string ⟨#[]⟩, .slice none 0 0] 25))).2.2.2.1⟩) (fun _ => ?_)
      refine norm_ (a' := ?_) ?_ ?_
      rotate_left
      · show Act.put _ (some 7) _ = _
        simp only [Act.put, List.setIfInBounds_toArray, List.set_cons_zero, List.set_cons_succ, i64_w, i32_w]
        rfl
      refine one_ (i := 6) (N := some 16) (bf 13 1151) rfl rfl (by kernel_rfl) (by decide) (fun K hK => ?_)
      refine goes_ Tryd.func87 (by kernel_rfl) rfl #[.agg #[.string f.tree.name, .int .u8 f.tree.kind, .string f.tree.data, .slice A f.tree.files.length c], .slice Ap p.length cp, .agg #[.string s.name, .int .u8 s.kind, .string s.data, .slice As s.files.length cs]] (by rfl) rfl rfl (by simp only [List.map_toArray, List.map_cons, List.map_nil]; rfl) ?_
      refine ((show Calls Tryd.prog 87 #[.agg #[.string f.tree.name, .int .u8 f.tree.kind, .string f.tree.data, .slice A f.tree.files.length c], .slice Ap p.length cp, .agg #[.string s.name, .int .u8 s.kind, .string s.data, .slice As s.files.length cs]] _ _ from putS f.tree s A As c cs Ap cp p _ (HS.out _ ((I.out _ (below_alloc (bdrew (Below.refl W0.heap.size W0)) (.cells #[.string ⟨#[]⟩, .int .u8 0, .string ⟨#[]⟩, .slice none 0 0] 25))).2.2.2.2)) hle hbt (I.out _ (below_alloc (bdrew (Below.refl W0.heap.size W0)) (.cells #[.string ⟨#[]⟩, .int .u8 0, .string ⟨#[]⟩, .slice none 0 0] 25))).2.1 hcp hpl (I.out _ (below_alloc (bdrew (Below.refl W0.heap.size W0)) (.cells #[.string ⟨#[]⟩, .int .u8 0, .string ⟨#[]⟩, .slice none 0 0] 25))).1 hcs hbs hn)).mono ?_
      rw [HU.out]
      rintro e w5 ⟨⟨A1, c1, rfl, hc1, hC1⟩, hq5⟩
      refine ⟨_, rfl, ?_⟩
      refine hK.out _ _ (⟨(I.out _ ((below_alloc (bdrew (Below.refl W0.heap.size W0)) (.cells #[.string ⟨#[]⟩, .int .u8 0, .string ⟨#[]⟩, .slice none 0 0] 25)).trans (hq5.mono (below_alloc (Below.refl W0.drew.heap.size W0.drew) (.cells #[.string ⟨#[]⟩, .int .u8 0, .string ⟨#[]⟩, .slice none 0 0] 25)).size))).2.2.1, (I.out _ ((below_alloc (bdrew (Below.refl W0.heap.size W0)) (.cells #[.string ⟨#[]⟩, .int .u8 0, .string ⟨#[]⟩, .slice none 0 0] 25)).trans (hq5.mono (below_alloc (Below.refl W0.drew.heap.size W0.drew) (.cells #[.string ⟨#[]⟩, .int .u8 0, .string ⟨#[]⟩, .slice none 0 0] 25)).size))).2.2.2.1⟩) (fun _ => ?_)
      refine norm_ (a' := ?_) ?_ ?_
      rotate_left
      · show Act.put _ (some 16) _ = _
        simp only [Act.put, List.setIfInBounds_toArray, List.set_cons_zero, List.set_cons_succ, i64_w, i32_w]
        rfl
      refine pure_ (i := 7) (N := some 9) (v := ?_) (a' := ?_) (bf 13 1279) rfl rfl (by kernel_rfl) (fun _ _ _ h => h) (Or.inl ⟨by rfl, ?_⟩) ?_ ?_
      rotate_left
      · intro w'
        go_simp
        with_reducible rfl
      rotate_left
      · simp only [Act.put, List.setIfInBounds_toArray, List.set_cons_zero, List.set_cons_succ, i64_w, i32_w]
        rfl
      refine pure_ (i := 8) (N := some 17) (v := ?_) (a' := ?_) (bf 13 1535) rfl rfl (by kernel_rfl) (fun _ _ _ h => h) (Or.inl ⟨by rfl, ?_⟩) ?_ ?_
      rotate_left
      · intro w'
        go_simp
        with_reducible rfl
      rotate_left
      · simp only [Act.put, List.setIfInBounds_toArray, List.set_cons_zero, List.set_cons_succ, i64_w, i32_w]
        rfl
      refine pure_ (i := 9) (N := some 18) (v := ?_) (a' := ?_) (bf 13 2047) rfl rfl (by kernel_rfl) (fun _ _ _ h => h) (Or.inl ⟨by rfl, ?_⟩) ?_ ?_
      rotate_left
      · intro w'
        go_simp
        with_reducible rfl
      rotate_left
      · simp only [Act.put, List.setIfInBounds_toArray, List.set_cons_zero, List.set_cons_succ, i64_w, i32_w]
        rfl
      refine norm_ (a' := _) ?_ (hc ((A1, c1, (W0.drew.alloc (.cells #[.string ⟨#[]⟩, .int .u8 0, .string ⟨#[]⟩, .slice none 0 0] 25)).heap.size, w5.heap.size), W0.heap.size) _ (⟨((below_alloc (bdrew (Below.refl W0.heap.size W0)) (.cells #[.string ⟨#[]⟩, .int .u8 0, .string ⟨#[]⟩, .slice none 0 0] 25)).trans (hq5.mono (below_alloc (Below.refl W0.drew.heap.size W0.drew) (.cells #[.string ⟨#[]⟩, .int .u8 0, .string ⟨#[]⟩, .slice none 0 0] 25)).size)), Nat.le_refl _, (hq5.block _ (blk_lt (blk_new W0.drew (.cells #[.string ⟨#[]⟩, .int .u8 0, .string ⟨#[]⟩, .slice none 0 0] 25)))).trans (blk_new W0.drew (.cells #[.string ⟨#[]⟩, .int .u8 0, .string ⟨#[]⟩, .slice none 0 0] 25)), hc1, hC1, (below_alloc (bdrew (Below.refl W0.heap.size W0)) (.cells #[.string ⟨#[]⟩, .int .u8 0, .string ⟨#[]⟩, .slice none 0 0] 25)).size, Nat.le_refl _, .inl (blk_lt (blk_new W0.drew (.cells #[.string ⟨#[]⟩, .int .u8 0, .string ⟨#[]⟩, .slice none 0 0] 25)))⟩))
      simp only [putAll, Act.put, List.setIfInBounds_toArray, List.set_cons_zero, List.set_cons_succ]
  · rintro ⟨⟨A1, c1, lo1, hi1⟩, gd⟩ W hF
    refine norm_ (a' := ?_) ?_ ?_
    rotate_left
    · simp only [putAll, Act.put, List.setIfInBounds_toArray, List.set_cons_zero, List.set_cons_succ]
      rfl
    obtain ⟨hbW, hgd, hzz, hc1, hIV, hlo1, hhi1, hsp⟩ := hF
    have hHeld := (show W.heap[g]? = some (.cells #[.string f.tree.name, .int .u8 f.tree.kind, .string f.tree.data, .slice A f.tree.files.length c, v, .map (some m)] 86 (0, 0)) ∧ W.heap[w.heap.size]? = some (.cells #[.string s.name, .int .u8 s.kind, .string s.data, .slice As s.files.length cs] 25 (0, 0)) from ⟨(I.out _ hbW).2.2.1, (I.out _ hbW).2.2.2.1⟩)
    refine last_ (i := 11) (N := none) (bf 13 4095) rfl rfl (by kernel_rfl) (by decide) (fun K hK => ?_)
    have zc0 := cell_of (j := 0) hzz rfl
    have zu0 := unfr hzz 0
    have zc1 := cell_of (j := 1) hzz rfl
    have zu1 := unfr hzz 1
    have zc2 := cell_of (j := 2) hzz rfl
    have zu2 := unfr hzz 2
    have zc3 := cell_of (j := 3) hzz rfl
    have zu3 := unfr hzz 3
    refine skip_ (w1 := ?_) (by rfl) rfl ?_ ?_
    rotate_left
    · go_simp
      rfl
    refine hK.out _ _ ?_
    refine pure_ (i := 12) (N := some 8) (v := ?_) (a' := ?_) (bf 13 8191) rfl rfl (by kernel_rfl) (fun _ _ _ h => h) (Or.inl ⟨by rfl, ?_⟩) ?_ ?_
    rotate_left
    · intro w'
      go_simp
      with_reducible rfl
    rotate_left
    · simp only [Act.put, List.setIfInBounds_toArray, List.set_cons_zero, List.set_cons_succ, i64_w, i32_w]
      rfl
    refine done_ (by kernel_rfl) ?_
    have hq6 := store4_below hbW (g := gd) hgd (.string u.name) (.int .u8 u.kind) (.string u.data) (.slice A1 u.files.length c1)
    have hd6 := store4_box hzz (.string u.name) (.int .u8 u.kind) (.string u.data) (.slice A1 u.files.length c1)
    have hIV6 := hIV.mv (w' := ((((W.setCell ⟨gd, 0, none⟩ (.string u.name)).setCell ⟨gd, 1, none⟩ (.int .u8 u.kind)).setCell ⟨gd, 2, none⟩ (.string u.data)).setCell ⟨gd, 3, none⟩ (.slice A1 u.files.length c1))) fun k h1 h2 => store4_other W (g := gd) (by omega) _ _ _ _
    have hs6 : ((((W.setCell ⟨gd, 0, none⟩ (.string u.name)).setCell ⟨gd, 1, none⟩ (.int .u8 u.kind)).setCell ⟨gd, 2, none⟩ (.string u.data)).setCell ⟨gd, 3, none⟩ (.slice A1 u.files.length c1)).heap.size = W.heap.size := by simp [World.setCell]
    have hhi6 : hi1 ≤ ((((W.setCell ⟨gd, 0, none⟩ (.string u.name)).setCell ⟨gd, 1, none⟩ (.int .u8 u.kind)).setCell ⟨gd, 2, none⟩ (.string u.data)).setCell ⟨gd, 3, none⟩ (.slice A1 u.files.length c1)).heap.size := by omega
    replace I := Lib.hid (Hd.mv I.out hq6)
    replace I := Lib.hid (Hd.and I.out (Hd.box (hd6)))
    clear zc0 zc1 zc2 zc3 zu0 zu1 zu2 zu3 hzz hHeld hK hd6 hs6 hIV hhi1 hsp
    generalize ((((W.setCell ⟨gd, 0, none⟩ (.string u.name)).setCell ⟨gd, 1, none⟩ (.int .u8 u.kind)).setCell ⟨gd, 2, none⟩ (.string u.data)).setCell ⟨gd, 3, none⟩ (.slice A1 u.files.length c1)) = W6 at *
    have hbw6 := I.out.now.2.2.2.2.2
    have HFS6 := Lib.hid (HFS0.out.below hbw6)
    have hs6 := hbw6.size
    have hs0 := Below.size hb0
    have hl0 : w.heap.size ≤ lo1 := by omega
    by_cases hk : k = 0
    rotate_left
    · skip
      have k1 : (k == 0) = false := beq_eq_false_iff_ne.2 hk
      have HPV := Lib.hid (show putV f.tree p s = (f.tree, k) from by unfold putV; rw [HU.out]; exact if_neg hk)
      clear hk
      go_wp2_with fail
      go_ret
      rw [HPV.out]
      exact ⟨rfl, HFS6.out.mono (fun k h => .inl h) (fun k h => h.elim (fun h => HFS6.out.lts k h) fun h => h.2), Only.of_belowV hbw6 _⟩
    · skip
      subst hk
      have k1 : ((0 : Int) == 0) = true := rfl
      have HPV := Lib.hid (show putV f.tree p s = (u, 0) from by unfold putV; rw [HU.out]; exact if_pos rfl)
      have HG6 := Lib.hid I.out.now.2.2.2.1
      have HIV6 := Lib.hid hIV6
      clear hIV6
      have lu0 := cell_of (j := 0) I.out.now.1 rfl
      have lu1 := cell_of (j := 1) I.out.now.1 rfl
      have lu2 := cell_of (j := 2) I.out.now.1 rfl
      have lu3 := cell_of (j := 3) I.out.now.1 rfl
      have zg0 := cell_of (j := 0) HG6.out rfl
      have ug0 := unfr HG6.out 0
      have zg1 := cell_of (j := 1) HG6.out rfl
      have ug1 := unfr HG6.out 1
      have zg2 := cell_of (j := 2) HG6.out rfl
      have ug2 := unfr HG6.out 2
      have zg3 := cell_of (j := 3) HG6.out rfl
      have ug3 := unfr HG6.out 3
      go_wp2_with fail
      go_ret
      rw [HPV.out]
      have hsz : ((((W6.setCell ⟨g, 0, none⟩ (.string u.name)).setCell ⟨g, 1, none⟩ (.int .u8 u.kind)).setCell ⟨g, 2, none⟩ (.string u.data)).setCell ⟨g, 3, none⟩ (.slice A1 u.files.length c1)).heap.size = W6.heap.size := by simp [World.setCell]
      obtain ⟨hle, hiv, hsep, htr, htb, hfl, hOm, hOlt⟩ := HFSK.out
      have htr6 := Kd.R_below htr hbw6
      have htrn := Kd.R_types htr6 HG6.out (by decide)
      have hflm := hfl.lt
      have hmg := (hfl.mv (hbw6.block m hflm)).ne HG6.out
      have htbl : ∀ k, tb = some k → k < w.heap.size := fun k e => hOlt k (((Kd.R_bound htr).1 k (htb.trans e)).1)
      refine ⟨rfl, ⟨A1, c1, v, m, lo1, hi1, store4_box6 HG6.out _ _ _ _, hc1, HIV6.out.mv fun k h1 h2 => store4_other W6 (g := g) (by omega) _ _ _ _, fun k h1 h2 => ⟨.inr ⟨by omega, by omega⟩, by omega, fun e => by have := htbl k e; omega⟩, Kd.R_mono (Kd.R_step htrn fun k hk _ => store4_other W6 (g := g) hk.2 _ _ _ _) (fun k hk => .inl hk.1), htb, hfl.mv ((store4_other W6 (g := g) hmg _ _ _ _).trans (hbw6.block m hflm)), .inl hOm, fun k h => h.elim (fun h => by have := hOlt k h; omega) fun h => h.2⟩, ?_⟩
      exact (Only.of_belowV hbw6 (fun k => k = g)).trans (only4 W6 g _ _ _ _) (fun _ _ h => h) (fun _ _ h => h)
end Go.Proofs.YthlcjjhfkldmhaaDoor.G
end
