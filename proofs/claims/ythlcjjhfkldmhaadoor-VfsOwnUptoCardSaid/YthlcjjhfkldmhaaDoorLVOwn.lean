/- The law VfsOwn, walked. Printed by wip/tools/gen_lvown.py. -/
import Derived.Test.YthlcjjhfkldmhaaDoorVFaultP
import Derived.Test.YthlcjjhfkldmhaaDoorVBegins
import Derived.Test.YthlcjjhfkldmhaaDoorVStep
import Derived.Test.YthlcjjhfkldmhaaDoorVSpoil
import Derived.Test.YthlcjjhfkldmhaaDoorVTreeF
import Derived.Test.YthlcjjhfkldmhaaDoorVCopyR
import Derived.Test.YthlcjjhfkldmhaaDoorVSameC
set_option linter.unusedVariables false
set_option linter.unusedSimpArgs false
namespace Go.Proofs.YthlcjjhfkldmhaaDoor.G
open Go.RowKit Go.Lib Go.Proofs.YthlcjjhfkldmhaaDoorW.PrintWords Go.Proofs.YthlcjjhfkldmhaaDoorW.PrintLast
set_option linter.unusedVariables false
set_option linter.unusedSimpArgs false

/-- Two file systems apart that hold the same, behind k steps. -/
def OwnI (w : World) (g1 g2 : Nat) (t : File) (L : List Step) (k : Nat) (wr : World) : Prop :=
  ∃ (S1 S2 : Nat → Prop) (f : FsV), FsIn S1 wr g1 f ∧ FsIn S2 wr g2 f ∧ (∀ j, S1 j → ¬ S2 j) ∧ (∀ j, S1 j → w.heap.size ≤ j ∧ j < wr.heap.size) ∧ (∀ j, S2 j → w.heap.size ≤ j ∧ j < wr.heap.size) ∧
    f.faults = [] ∧ rightT f.tree = true ∧ f.tree.bulk ≤ t.bulk + 259 * k + stepsB (L.take k) ∧ f.trace.length ≤ k ∧ shortT f.trace ∧ Below w.heap.size w wr
theorem own_steps_take {L : List Step} {k : Nat} (hk : k < L.length) : stepsB (L.take (k + 1)) = stepsB (L.take k) + stepB L[k] := by
  rw [List.take_succ_eq_append_getElem hk]
  simp only [stepsB, List.map_append, List.map_cons, List.map_nil, List.sum_append, List.sum_cons, List.sum_nil]
  omega
theorem own_steps_le (L : List Step) (k : Nat) : stepsB (L.take k) ≤ stepsB L := by
  have h : stepsB L = stepsB (L.take k) + stepsB (L.drop k) := by
    have h0 := congrArg stepsB (List.take_append_drop k L)
    rw [← h0]
    simp only [stepsB, List.map_append, List.sum_append]
  omega
theorem FT_ownmem {B : Nat} {x : File} {w : World} {v : Value} {bl : List Nat} (h : FT B x w v bl) (g' : Nat) (hg : v.ownBlock = some g') : g' ∈ bl := by
  rw [FT_eq] at h
  rcases h with ⟨_, h2, _⟩ | ⟨g'', _, _, h2, h3, _⟩
  · rw [h2] at hg
    cases hg
  · obtain rfl : g'' = g' := Option.some.inj (h2.symm.trans hg)
    rw [h3]
    exact List.mem_cons_self
theorem cell_sameO {W W' : World} {g : Nat} (h : W'.heap[g]? = W.heap[g]?) (j : Nat) : W'.cell? ⟨g, j, none⟩ = W.cell? ⟨g, j, none⟩ := by simp [World.cell?, h]
theorem own_any {w : World} {B e m n : Nat} {v : Value} {xs : List Value} (h : w.ownsRow B e m v n xs) (g i : Nat) (u : Value) : ∃ ys, (w.setCell ⟨g, i, none⟩ u).ownsRow B e m v n ys := by
  by_cases hg : v.ownBlock = some g
  · rcases h.2 with ⟨rfl, _⟩ | ⟨g', cap, cur, rfl, _⟩
    · cases hg
    · obtain rfl : g' = g := Option.some.inj hg
      exact ⟨_, (h.stored i u).1⟩
  · exact ⟨xs, own_keep h fun g' hg' => Below.heap_setCell _ _ _ _ (by rintro rfl; exact hg hg')⟩
theorem own_some {w : World} {B e m n k : Nat} {v : Value} {xs : List Value} (h : w.ownsRow B e m v n xs) (hk : k < n) : ∃ g c, v = .slice (some ⟨g, 0, none⟩) n c ∧ B ≤ g ∧ g < w.heap.size := by
  rcases h.2 with ⟨_, h0⟩ | ⟨g, cap, cur, rfl, hb, _⟩
  · omega
  · exact ⟨g, cap, rfl, hb, (h.lt g rfl).2⟩
/-- What the loops over the paths of a step keep: the rows stay rows. -/
def TwoRows (lo hi : Nat) (VP VQ : Value) (nP nQ : Nat) (X wr : World) : Prop :=
  Only (fun j => lo ≤ j ∧ j < hi) X wr ∧ (∃ xs, wr.ownsRow lo 9 1 VP nP xs) ∧ (∃ xs, wr.ownsRow lo 9 1 VQ nQ xs) ∧ (∀ j, VP.ownBlock = some j → j < hi) ∧ ∀ j, VQ.ownBlock = some j → j < hi
theorem TwoRows.put {lo hi : Nat} {VP VQ : Value} {nP nQ : Nat} {X wr : World} (h : TwoRows lo hi VP VQ nP nQ X wr) {g : Nat} (hg : lo ≤ g ∧ g < hi) (i : Nat) (u : Value) : TwoRows lo hi VP VQ nP nQ X (wr.setCell ⟨g, i, none⟩ u) := by
  obtain ⟨h1, ⟨xs, h2⟩, ⟨ys, h3⟩, h4, h5⟩ := h
  exact ⟨only_set h1 (.inl hg) i u, own_any h2 g i u, own_any h3 g i u, h4, h5⟩
/-- What the loops over a trace of one's own keep. -/
def TraceI (B : Nat) (VT : Value) (n k : Nat) (X wr : World) : Prop :=
  Below B X wr ∧ B ≤ wr.heap.size ∧ ∃ xs, wr.ownsRow B 59 4 VT n xs ∧ ∀ i, k ≤ i → i < n → ∃ A m c, xs[i * 4 + 1]? = some (.slice A m c) ∧ m ≤ 1024 ∧ (∃ ys, wr.ownsRow B 9 1 (.slice A m c) m ys) ∧ ∀ j, (Value.slice A m c).ownBlock = some j → VT.ownBlock ≠ some j
theorem TraceI.put {B : Nat} {VT : Value} {n k : Nat} {X wr : World} (h : TraceI B VT n k X wr) {g : Nat} (hB : B ≤ g) (hg : VT.ownBlock ≠ some g) (i : Nat) (u : Value) : TraceI B VT n k X (wr.setCell ⟨g, i, none⟩ u) := by
  obtain ⟨h1, hs, xs, h2, h3⟩ := h
  refine ⟨h1.trans ((Only.setCell wr ⟨g, i, none⟩ u).below (B := B) hs (fun k hk e => by have e' : k = g := e; omega)), by simpa [World.setCell] using hs, xs, own_keep h2 fun g' hg' => Below.heap_setCell _ _ _ _ (by rintro rfl; exact hg hg'), fun j hj hn => ?_⟩
  obtain ⟨A, m, c, h4, h5, ⟨ys, h6⟩, h7⟩ := h3 j hj hn
  exact ⟨A, m, c, h4, h5, own_any h6 g i u, h7⟩
theorem TraceI.row {B g c : Nat} {n k : Nat} {X wr : World} (h : TraceI B (.slice (some ⟨g, 0, none⟩) n c) n k X wr) (hB : B ≤ g) (v0 v1 v2 v3 : Value) (hk : k < n) : TraceI B (.slice (some ⟨g, 0, none⟩) n c) n (k + 1) X ((((wr.setCell ⟨g, k * 4, none⟩ v0).setCell ⟨g, k * 4 + 1, none⟩ v1).setCell ⟨g, k * 4 + 2, none⟩ v2).setCell ⟨g, k * 4 + 3, none⟩ v3) := by
  obtain ⟨h1, hs, xs, h2, h3⟩ := h
  have hb : ∀ {W : World} (i : Nat) (u : Value), Below B X W → B ≤ W.heap.size → Below B X (W.setCell ⟨g, i, none⟩ u) ∧ B ≤ (W.setCell ⟨g, i, none⟩ u).heap.size := fun {W} i u hW hs => ⟨hW.trans ((Only.setCell W ⟨g, i, none⟩ u).below (B := B) hs (fun k hk e => by have e' : k = g := e; omega)), by simpa [World.setCell] using hs⟩
  have b0 := hb (k * 4) v0 h1 hs
  have b1 := hb (k * 4 + 1) v1 b0.1 b0.2
  have b2 := hb (k * 4 + 2) v2 b1.1 b1.2
  have b3 := hb (k * 4 + 3) v3 b2.1 b2.2
  refine ⟨b3.1, b3.2, _, (((((h2.stored (k * 4) v0).1).stored (k * 4 + 1) v1).1.stored (k * 4 + 2) v2).1.stored (k * 4 + 3) v3).1, fun i hi hn => ?_⟩
  obtain ⟨A, m, c', h4, h5, ⟨ys, h6⟩, h7⟩ := h3 i (by omega) hn
  refine ⟨A, m, c', ?_, h5, ⟨ys, own_keep h6 fun j hj => ?_⟩, h7⟩
  · rw [List.getElem?_set_ne (by omega), List.getElem?_set_ne (by omega), List.getElem?_set_ne (by omega), List.getElem?_set_ne (by omega), h4]
  · have hne : j ≠ g := fun e => h7 j hj (by rw [e]; rfl)
    exact (Below.heap_setCell _ _ _ _ (by simpa using hne)).trans ((Below.heap_setCell _ _ _ _ (by simpa using hne)).trans ((Below.heap_setCell _ _ _ _ (by simpa using hne)).trans (Below.heap_setCell _ _ _ _ (by simpa using hne))))
theorem trace_rows {w' : World} {B : Nat} {v : Value} {l : List Call} (h : CallK.R 59 w' B (fun _ => True) v l) (hB : B ≤ w'.heap.size) (hs : shortT l) : ∃ A c, v = .slice A l.length c ∧ TraceI B (.slice A l.length c) l.length 0 w' w' := by
  obtain ⟨A, c, rfl⟩ := Kd.R_slice h
  refine ⟨A, c, rfl, Below.refl _ _, hB, ?_⟩
  obtain ⟨_, inner, ho, hr⟩ := h
  refine ⟨inner, ho, fun i _ hi => ?_⟩
  have hm := hr.2 i l[i] (List.getElem?_eq_getElem hi)
  obtain ⟨vp, vq, e, hp, hq⟩ := call_openM hm
  obtain ⟨Ap, cp, rfl⟩ := Kd.R_slice hp
  obtain ⟨ys, hy⟩ := Kd.R_own hp
  refine ⟨Ap, _, cp, ?_, (hs _ (List.getElem_mem hi)).1, ⟨ys, hy⟩, fun j hj => Ne.symm (hp.1 j hj).2⟩
  have h1 : ((inner.drop (i * 4)).take 4)[1]? = some (.slice Ap l[i].path.length cp) := by
    have e' : (inner.drop (i * CallK.sz)).take CallK.sz = [.int .u8 l[i].kind, .slice Ap l[i].path.length cp, vq, .int .i64 l[i].why] := e
    rw [show (4 : Nat) = CallK.sz from rfl, e']
    rfl
  rw [List.getElem?_take_of_lt (by omega), List.getElem?_drop] at h1
  exact h1
set_option maxHeartbeats 8000000 in
set_option maxRecDepth 100000 in
theorem lvown_all (t : File) (A : Option Addr) (c : Nat) (AL : Option Addr) (cL : Nat) (L : List Step) (w : World) (ht : FileK.C w A t.files.length t.files) (hc : t.files.length ≤ c) (hbt : t.bulk ≤ 1048576) (hL : StepK.C w AL L.length L) (hcL : L.length ≤ cL) (hsl : stepsB L ≤ 1048576) :
    Calls Tryd.prog 9 #[fileV t A c, .slice AL L.length cL] w fun e w' => e = .returned (.bool true) ∧ Below w.heap.size w w' := by
  have HT := Lib.hid ht
  have HL := Lib.hid hL
  have HSL := Lib.hid hsl
  have hlen := steps_len L
  have hLb : L.length ≤ 209715 := by omega
  have hax := below_alloc (Below.refl w.heap.size w) (.cells #[.string t.name, .int .u8 t.kind, .string t.data, .slice A t.files.length c] 25)
  have HX0 := Lib.hid (blk_new w (.cells #[.string t.name, .int .u8 t.kind, .string t.data, .slice A t.files.length c] 25))
  have HAX := Lib.hid hax
  clear ht hL hsl hax
  go_enter Tryd.func9, Tryd.ntmps9
  unfold fileV
  go_wp2_with fail
  generalize (w.alloc (.cells #[.string t.name, .int .u8 t.kind, .string t.data, .slice A t.files.length c] 25)) = W0 at *
  have hs0 := HAX.out.size
  have hx0 := blk_lt HX0.out
  refine (begins_calls W0).mono ?_
  rintro e w1 ⟨rfl, hq1⟩
  have hb1 := HAX.out.trans (hq1.mono hs0)
  have hs1 := hq1.size
  have HX1 := Lib.hid ((hq1.block _ hx0).trans HX0.out)
  have l0 := cell_of (j := 0) HX1.out rfl
  have l1 := cell_of (j := 1) HX1.out rfl
  have l2 := cell_of (j := 2) HX1.out rfl
  have l3 := cell_of (j := 3) HX1.out rfl
  go_wp2_with fail
  clear l0 l1 l2 l3
  refine (show Calls Tryd.prog 10 #[.agg #[.string t.name, .int .u8 t.kind, .string t.data, .slice A t.files.length c]] w1 _ from rcopy_apart t.bulk t A c w1 (Nat.le_refl _) (by omega) (Kd.C_below HT.out hb1) hc).mono ?_
  rintro e w2 ⟨v2, bl, rfl, hF2, hnd, hq2⟩
  obtain ⟨A2, c2, rfl, hc2, hC2⟩ := FT_reads _ _ _ _ _ hF2
  have hb2 := hb1.trans (hq2.mono hb1.size)
  have hs2 := hq2.size
  have HX2 := Lib.hid ((hq2.block _ (blk_lt HX1.out)).trans HX1.out)
  have hax3 := below_alloc (Below.refl w2.heap.size w2) (.cells #[.string t.name, .int .u8 t.kind, .string t.data, .slice A2 t.files.length c2] 25)
  have HG3 := Lib.hid (blk_new w2 (.cells #[.string t.name, .int .u8 t.kind, .string t.data, .slice A2 t.files.length c2] 25))
  have HAX3 := Lib.hid hax3
  have hs3 : (w2.alloc (.cells #[.string t.name, .int .u8 t.kind, .string t.data, .slice A2 t.files.length c2] 25)).heap.size = w2.heap.size + 1 := by simp
  have hC3 := Kd.C_below hC2 hax3
  have hF3 := FT_below hF2 hax3
  have l0 := cell_of (j := 0) HG3.out rfl
  have l1 := cell_of (j := 1) HG3.out rfl
  have l2 := cell_of (j := 2) HG3.out rfl
  have l3 := cell_of (j := 3) HG3.out rfl
  go_wp2_with fail
  clear l0 l1 l2 l3
  generalize (w2.alloc (.cells #[.string t.name, .int .u8 t.kind, .string t.data, .slice A2 t.files.length c2] 25)) = W3 at *
  have hb3 := hb2.trans (HAX3.out.mono hb2.size)
  have HX3 := Lib.hid ((HAX3.out.block _ (blk_lt HX2.out)).trans HX2.out)
  refine (show Calls Tryd.prog 19 #[.agg #[.string t.name, .int .u8 t.kind, .string t.data, .slice A2 t.files.length c2], .slice none 0 0] W3 _ from new_in t A2 c2 none 0 [] W3 hC3 hc2 (by omega) (Kd.C_nil _ _) (Nat.le_refl _) (by show 0 ≤ _; omega)).mono ?_
  rintro e w4 h
  have hq4 : Below W3.heap.size W3 w4 := by
    rcases h with h | ⟨_, g, _, _, h⟩
    · exact h.2.2
    · exact h
  have hb4 := hb3.trans (hq4.mono hb3.size)
  have hs4 := hq4.size
  have HX4 := Lib.hid ((hq4.block _ (blk_lt HX3.out)).trans HX3.out)
  have HG4 := Lib.hid ((hq4.block _ (blk_lt HG3.out)).trans HG3.out)
  rcases h with ⟨hr, rfl, _⟩ | ⟨hr, g1, rfl, hf, _⟩
  · go_wp2_with fail
    go_ret
    exact ⟨rfl, hb4⟩
  have HFa := Lib.hid hf
  clear hf
  have l0 := cell_of (j := 0) HX4.out rfl
  have l1 := cell_of (j := 1) HX4.out rfl
  have l2 := cell_of (j := 2) HX4.out rfl
  have l3 := cell_of (j := 3) HX4.out rfl
  go_wp2_with fail
  clear l0 l1 l2 l3
  refine (show Calls Tryd.prog 19 #[.agg #[.string t.name, .int .u8 t.kind, .string t.data, .slice A t.files.length c], .slice none 0 0] w4 _ from new_in t A c none 0 [] w4 (Kd.C_below HT.out hb4) hc (by omega) (Kd.C_nil _ _) (Nat.le_refl _) (by show 0 ≤ _; omega)).mono ?_
  rintro e w5 h
  rcases h with ⟨hr2, _⟩ | ⟨-, g2, rfl, hg, hq5⟩
  · rw [hr] at hr2
    cases hr2
  have hb5 := hb4.trans (hq5.mono hb4.size)
  have hs5 := hq5.size
  have HG5 := Lib.hid ((hq5.block _ (blk_lt HG4.out)).trans HG4.out)
  have HFb := Lib.hid hg
  have hF5 := FT_below (FT_below hF3 hq4) hq5
  have hbl := FT_lt _ _ _ _ _ hF2
  have hsp := spoil_calls t.bulk t w5 A2 c2 w1.heap.size bl (Nat.le_refl _) (by omega) hF5 hnd (by omega)
  have HA5 := Lib.hid (HFa.out.below hq5)
  clear hg HFa HX0 HX1 HX2 HX3 HX4 HG3 HG4 hF2 hF3 hF5 hC2 hC3
  have l0 := cell_of (j := 0) HG5.out rfl
  have l1 := cell_of (j := 1) HG5.out rfl
  have l2 := cell_of (j := 2) HG5.out rfl
  have l3 := cell_of (j := 3) HG5.out rfl
  go_wp2_with fail
  clear l0 l1 l2 l3
  refine (show Calls Tryd.prog 32 #[.agg #[.string t.name, .int .u8 t.kind, .string t.data, .slice A2 t.files.length c2]] w5 _ from hsp).mono ?_
  rintro e w6 ⟨rfl, ho6, _⟩
  have hwz := hb1.size
  have hs6 := ho6.size
  have HI0 : Hid (OwnI w g1 g2 t L 0 w6) := Lib.hid (by
    refine ⟨_, _, _, HA5.out.keep ho6 (fun j h1 h2 => by have := hbl j h2; have := h1.1; omega), HFb.out.keep ho6 (fun j h1 h2 => by have := hbl j h2; have := h1.1; omega), fun j h1 h2 => by have := h1.2; have := h2.1; omega, fun j h => ⟨by have := h.1; omega, by have := h.2; omega⟩, fun j h => ⟨by have := h.1; omega, by have := h.2; omega⟩, rfl, hr, by show t.bulk ≤ _; omega, Nat.le_refl _, (fun x hx => (by cases hx)), hb5.trans (ho6.below (B := w.heap.size) (by omega) (fun j hj h2 => by have := hbl j h2; omega))⟩)
  clear hsp hb1 hb2 hb3 hb4 hb5 hq1 hq2 hq4 hq5 HAX HAX3 hax3 HG5 HFb HA5 ho6 hnd hbl
  go_wp2_with fail
  go_loopw [10] (fun i wr => ∃ k : Nat, k ≤ L.length ∧ i = .int .i64 k ∧ Hid (OwnI w g1 g2 t L k wr)) (fun i _ => L.length - (RowKit.intOf i).toNat)
  case atStart => exact ⟨0, by omega, rfl, HI0⟩
  case round =>
    clear HI0
    obtain ⟨k, hk, rfl, HI⟩ := hrel
    obtain ⟨wo, rfl⟩ : ∃ W, W = wr := ⟨_, rfl⟩
    have hbase : Below w.heap.size w wo := by
      obtain ⟨_, _, _, _, _, _, _, _, _, _, _, _, _, hb⟩ := HI.out
      exact hb
    by_cases q1 : k < L.length
    · obtain ⟨ad, A1, c1, B1, d1, rfl, p0, p1, p2, p3, hc1, HP, hd1, HQ⟩ := step_at HL.out hbase k q1
      have hsb := stepB_mem (List.getElem_mem q1)
      have HTK := Lib.hid (own_steps_take q1)
      have hsk := own_steps_le L k
      generalize L[k] = x at *
      have HP0 := Lib.hid HP
      have HQ0 := Lib.hid HQ
      have hsl := HSL.out
      have hxp : P.sumP x.path ≤ 1099511627776 := by unfold stepB at hsb; have : P.sumP x.path = sumP x.path := rfl; omega
      have hxq : P.sumP x.dest ≤ 1099511627776 := by unfold stepB at hsb; have : P.sumP x.dest = sumP x.dest := rfl; omega
      have hxpl := P.sumP_len x.path
      have hxql := P.sumP_len x.dest
      have hxd : x.data.size ≤ 1048576 := by unfold stepB at hsb; omega
      have hxs : x.data.size + 5 ≤ stepB x := by unfold stepB; omega
      have hwr := hbase.size
      have hax := below_alloc (Below.refl wo.heap.size wo) (.cells #[.int .u8 x.kind, .slice A1 x.path.length c1, .slice B1 x.dest.length d1, .string x.data] 46)
      have HX := Lib.hid (blk_new wo (.cells #[.int .u8 x.kind, .slice A1 x.path.length c1, .slice B1 x.dest.length d1, .string x.data] 46))
      have HAX := Lib.hid hax
      have g1' : (k : Int) < (L.length : Int) := by omega
      have e0 := cell_of (j := 0) HX.out rfl
      have e1 := cell_of (j := 1) HX.out rfl
      have e2 := cell_of (j := 2) HX.out rfl
      have e3 := cell_of (j := 3) HX.out rfl
      have hX1s : (wo.alloc (.cells #[.int .u8 x.kind, .slice A1 x.path.length c1, .slice B1 x.dest.length d1, .string x.data] 46)).heap.size = wo.heap.size + 1 := by simp
      clear HP HQ hsl hax
      go_wp2_with fail
      clear e0 e1 e2 e3 p0 p1 p2 p3
      generalize (wo.alloc (.cells #[.int .u8 x.kind, .slice A1 x.path.length c1, .slice B1 x.dest.length d1, .string x.data] 46)) = X1 at *
      refine (P.rcopy_calls A1 c1 x.path X1 (Kd.C_below (Kd.F_now HP0.out) HAX.out) hc1 (by omega)).mono ?_
      rintro e a1 ⟨vp, rfl, hR1, hqa1⟩
      obtain ⟨Ap, cp, rfl⟩ := Kd.R_slice hR1
      have hcp := (Kd.R_reads' hR1).2.1
      have hr1 := HAX.out.trans (hqa1.mono HAX.out.size)
      have hsa1 := hqa1.size
      have HXa1 := Lib.hid ((hqa1.block _ (blk_lt HX.out)).trans HX.out)
      have HR1 := Lib.hid hR1
      have HRR1 := Lib.hid hr1
      have e0 := cell_of (j := 2) HXa1.out rfl
      clear hR1 hr1 hqa1
      go_wp2_with fail
      clear e0
      refine (P.rcopy_calls B1 d1 x.dest a1 (Kd.C_below (Kd.F_now HQ0.out) HRR1.out) hd1 (by omega)).mono ?_
      rintro e a2 ⟨vq, rfl, hR2, hqa2⟩
      obtain ⟨Aq, cq, rfl⟩ := Kd.R_slice hR2
      have hcq := (Kd.R_reads' hR2).2.1
      have hsa2 := hqa2.size
      have HXa2 := Lib.hid ((hqa2.block _ (blk_lt HXa1.out)).trans HXa1.out)
      have HRR2 := Lib.hid (HRR1.out.trans (hqa2.mono HRR1.out.size))
      have HR1b := Lib.hid (Kd.R_below HR1.out hqa2)
      have HR2 := Lib.hid hR2
      clear hR2 hqa2 HXa1 HRR1
      obtain ⟨S1, S2, f, h1, h2, h3, h4, h5, h7, h9, h10, h11, hsh, h13⟩ := HI.out
      have H1 := Lib.hid (h1.below HRR2.out)
      have H2 := Lib.hid (h2.below HRR2.out)
      have H7 := Lib.hid h7
      have H9 := Lib.hid h9
      have HSH := Lib.hid hsh
      have hsl := HSL.out
      have hfb : f.tree.bulk ≤ 100000000 := by omega
      have hfl : f.trace.length ≤ 1000000 := by omega
      clear h1 h2 h7 h9 h13 hsh hsl HI
      obtain ⟨⟨f', a, why⟩, hdo⟩ : ∃ r, doV f x = r := ⟨_, rfl⟩
      have HDO := Lib.hid hdo
      have hc3 := do_in a2 g1 S1 f H1.out hfb (by omega) x Ap Aq cp cq (Kd.F_mono (Kd.R_F (Kd.R_bound HR1b.out)) fun j hj hS => by have := (h4 j hS).2; have := hj.2.1; omega) hcp hxp (Kd.F_mono (Kd.R_F (Kd.R_bound HR2.out)) fun j hj hS => by have := (h4 j hS).2; have := hj.2.1; omega) hcq hxq (by omega)
      rw [hdo] at hc3
      have HC3 := Lib.hid hc3
      have e0 := cell_of (j := 0) HXa2.out rfl
      have e3 := cell_of (j := 3) HXa2.out rfl
      clear hc3 hdo
      go_wp2_with fail
      clear e0 e3
      refine HC3.out.mono ?_
      clear HC3
      rintro e a3 ⟨rfl, hf3, ho3⟩
      have hs3 := ho3.size
      have HF3 := Lib.hid hf3
      have HO3 := Lib.hid ho3
      have HG3 := Lib.hid (H2.out.keep ho3 fun j hj hS => h3 j hS hj)
      have HX3 := Lib.hid ((ho3.block _ (by have := blk_lt HXa2.out; omega) (fun hS => by have := (h4 _ hS).2; omega)).trans HXa2.out)
      have hax := below_alloc (Below.refl a3.heap.size a3) (.cells #[.int .u8 a.kind, .int .i64 a.size, .string a.data] 52)
      have HA4 := Lib.hid (blk_new a3 (.cells #[.int .u8 a.kind, .int .i64 a.size, .string a.data] 52))
      have HAX4 := Lib.hid hax
      have HX4 := Lib.hid ((hax.block _ (blk_lt HX3.out)).trans HX3.out)
      have hX4s : (a3.alloc (.cells #[.int .u8 a.kind, .int .i64 a.size, .string a.data] 52)).heap.size = a3.heap.size + 1 := by simp
      clear hf3 ho3 hax
      have e0 := cell_of (j := 0) HX4.out rfl
      have e1 := cell_of (j := 1) HX4.out rfl
      have e2 := cell_of (j := 2) HX4.out rfl
      have e3 := cell_of (j := 3) HX4.out rfl
      go_wp2_with fail
      clear e0 e1 e2 e3
      generalize (a3.alloc (.cells #[.int .u8 a.kind, .int .i64 a.size, .string a.data] 52)) = X4 at *
      have hmv4 : ∀ j, j < wo.heap.size → ¬ S1 j → X4.heap[j]? = wo.heap[j]? := fun j hj hS => (HAX4.out.block j (by omega)).trans ((HO3.out.block j (by omega) hS).trans (HRR2.out.block j hj))
      have hxc := do_in X4 g2 S2 f (HG3.out.below HAX4.out) hfb (by omega) x A1 B1 c1 d1 (Kd.F_mono (Kd.F_step HP0.out (W1 := X4) fun j hj _ => hmv4 j (by omega) (fun hS => by have := (h4 j hS).1; omega)) fun j hj hS => by have := (h5 j hS).1; omega) hc1 hxp (Kd.F_mono (Kd.F_step HQ0.out (W1 := X4) fun j hj _ => hmv4 j (by omega) (fun hS => by have := (h4 j hS).1; omega)) fun j hj hS => by have := (h5 j hS).1; omega) hd1 hxq (by omega)
      rw [HDO.out] at hxc
      refine hxc.mono ?_
      clear hxc hmv4
      rintro e a5 ⟨rfl, hf5, ho5⟩
      have hs5 := ho5.size
      have HF5 := Lib.hid hf5
      have HO5 := Lib.hid ho5
      have HA5 := Lib.hid ((ho5.block _ (blk_lt HA4.out) (fun hS => by have := (h5 _ hS).2; omega)).trans HA4.out)
      have hax := below_alloc (Below.refl a5.heap.size a5) (.cells #[.int .u8 a.kind, .int .i64 a.size, .string a.data] 52)
      have HB6 := Lib.hid (blk_new a5 (.cells #[.int .u8 a.kind, .int .i64 a.size, .string a.data] 52))
      have HAX6 := Lib.hid hax
      have HA6 := Lib.hid ((hax.block _ (blk_lt HA5.out)).trans HA5.out)
      have hX6s : (a5.alloc (.cells #[.int .u8 a.kind, .int .i64 a.size, .string a.data] 52)).heap.size = a5.heap.size + 1 := by simp
      have y0 := cell_of (j := 0) HA6.out rfl
      have y1 := cell_of (j := 1) HA6.out rfl
      have y2 := cell_of (j := 2) HA6.out rfl
      have z0 := cell_of (j := 0) HB6.out rfl
      have z1 := cell_of (j := 1) HB6.out rfl
      have z2 := cell_of (j := 2) HB6.out rfl
      have hww : (why != why) = false := by simp
      clear hf5 ho5 hax
      go_wp2_with fail
      clear y0 y1 y2 z0 z1 z2 hww
      generalize (a5.alloc (.cells #[.int .u8 a.kind, .int .i64 a.size, .string a.data] 52)) = X6 at *
      have hmv6 : ∀ j, wo.heap.size ≤ j → j < a2.heap.size → X6.heap[j]? = a2.heap[j]? := fun j h6 h8 => (HAX6.out.block j (by omega)).trans ((HO5.out.block j (by omega) (fun hS => by have := (h5 j hS).2; omega)).trans ((HAX4.out.block j (by omega)).trans (HO3.out.block j h8 (fun hS => by have := (h4 j hS).2; omega))))
      have HTR : Hid (TwoRows X1.heap.size a2.heap.size (.slice Ap x.path.length cp) (.slice Aq x.dest.length cq) x.path.length x.dest.length X6 X6) := Lib.hid (by
        obtain ⟨ys, hy⟩ := Kd.R_own HR1b.out
        obtain ⟨zs, hz⟩ := Kd.R_own HR2.out
        refine ⟨Only.refl _ _, ⟨ys, own_keep hy fun j hj => hmv6 j (by have := (hy.lt j hj).1; omega) (hy.lt j hj).2⟩, ⟨zs, own_lower (own_keep hz fun j hj => hmv6 j (by have := (hz.lt j hj).1; omega) (hz.lt j hj).2) (by omega)⟩, fun j hj => (hy.lt j hj).2, fun j hj => (hz.lt j hj).2⟩)
      have hb6 : Below w.heap.size w X6 := (hbase.trans (HRR2.out.mono hwr)).trans ((HO3.out.below (B := w.heap.size) (by omega) (fun j hj hS => by have := (h4 j hS).1; omega)).trans ((HAX4.out.mono (by omega)).trans ((HO5.out.below (B := w.heap.size) (by omega) (fun j hj hS => by have := (h5 j hS).1; omega)).trans (HAX6.out.mono (by omega)))))
      have HF6 := Lib.hid ((((HF3.out.below HAX4.out).keep HO5.out (fun j hj hS => by
        rcases hj with hj | hj
        · exact h3 j hj hS
        · have := (h5 j hS).2; omega)).below HAX6.out))
      have HG6 := Lib.hid (HF5.out.below HAX6.out)
      have hgr := do_grows f x H9.out
      have hds := do_short (x := x) HSH.out
      have HFA := H7.out
      rw [HDO.out] at hgr hds
      simp only at hgr hds
      have hsl := HSL.out
      have htk := HTK.out
      have hsk2 := own_steps_le L (k + 1)
      have HFIN : Hid (∀ W, (∃ V, Only (fun j => X1.heap.size ≤ j ∧ j < a2.heap.size) X6 V ∧ Below V.heap.size V W) → OwnI w g1 g2 t L (k + 1) W ∧ FsIn (Grown S1 a2 a3) W g1 f') := Lib.hid (by
        rintro W ⟨V, hV, hW⟩
        have hVs := hV.size
        have hWs := hW.size
        have hFW : FsIn (Grown S1 a2 a3) W g1 f' := (HF6.out.keep hV (fun j hj hS => by
          rcases hj with hj | hj
          · have := (h4 j hj).2; omega
          · omega)).below hW
        refine ⟨⟨Grown S1 a2 a3, Grown S2 X4 a5, f', hFW, (HG6.out.keep hV (fun j hj hS => by
          rcases hj with hj | hj
          · have := (h5 j hj).2; omega
          · omega)).below hW, ?_, ?_, ?_, hgr.2.2.2.trans HFA, hgr.1, by have := hgr.2.1; omega, by have := hgr.2.2.1; omega, hds, (hb6.trans (hV.below (B := w.heap.size) (by omega) (fun j hj hS => by omega))).trans (hW.mono (by omega))⟩, hFW⟩
        · rintro j (hj | hj) (hS | hS)
          · exact h3 j hj hS
          · have := (h4 j hj).2; omega
          · have := (h5 j hS).2; omega
          · omega
        · rintro j (hj | hj)
          · exact ⟨(h4 j hj).1, by have := (h4 j hj).2; omega⟩
          · exact ⟨by omega, by omega⟩
        · rintro j (hj | hj)
          · exact ⟨(h5 j hj).1, by have := (h5 j hj).2; omega⟩
          · exact ⟨by omega, by omega⟩)
      have hfb' : f'.tree.bulk ≤ 100000000 := by have := hgr.2.1; omega
      have hfl' : f'.trace.length ≤ 1000000 := by have := hgr.2.2.1; omega
      have HSH' := Lib.hid hds
      clear hmv6 HF6 HG6 hgr hds HFA hsl htk hsk2 HF3 HF5 HG3 HA4 HA5 HA6 HB6 HX3 HX4 HXa2 HO3 HO5 HAX4 HAX6 HR1 HR1b HR2 HRR2 H1 H2 H7 H9 HSH HDO h3 h4 h5 h10 h11 hb6 hbase HP0 HQ0 HX HAX hsb hsk HTK
      go_loopw [18] (fun i wr => ∃ m : Nat, m ≤ x.path.length ∧ i = .int .i64 m ∧ Hid (TwoRows X1.heap.size a2.heap.size (.slice Ap x.path.length cp) (.slice Aq x.dest.length cq) x.path.length x.dest.length X6 wr)) (fun i _ => x.path.length - (RowKit.intOf i).toNat)
      case atStart => exact ⟨0, by omega, rfl, HTR⟩
      case round =>
        clear HTR
        obtain ⟨m, hm, rfl, HTR⟩ := hrel
        by_cases q2 : m < x.path.length
        · obtain ⟨ys, hy⟩ := HTR.out.2.1
          obtain ⟨gp, _, he, hgl, _⟩ := own_some hy q2
          obtain ⟨rfl, -⟩ : Ap = some ⟨gp, 0, none⟩ ∧ True := by injection he with he; exact ⟨he, trivial⟩
          have hgh := HTR.out.2.2.2.1 gp rfl
          have hyl : m < ys.length := by rw [hy.1]; omega
          have v0 := (hy.cellAt m (by omega)).trans (List.getElem?_eq_getElem hyl)
          have vf := hy.frozenAt m
          have HPUT := Lib.hid (fun u => HTR.out.put ⟨hgl, hgh⟩ m u)
          have g2' : (m : Int) < (x.path.length : Int) := by omega
          clear hy he
          go_wp2_with fail
          go_roundw
          case rel => exact ⟨m + 1, by omega, by go_num, Lib.hid (HPUT.out _)⟩
          case measure => simp [RowKit.intOf]; omega
        · obtain rfl : m = x.path.length := by omega
          obtain ⟨b7, rfl⟩ : ∃ W, W = wr := ⟨_, rfl⟩
          go_wp2_with fail
          go_loopw [19] (fun i wr => ∃ m : Nat, m ≤ x.dest.length ∧ i = .int .i64 m ∧ Hid (TwoRows X1.heap.size a2.heap.size (.slice Ap x.path.length cp) (.slice Aq x.dest.length cq) x.path.length x.dest.length X6 wr)) (fun i _ => x.dest.length - (RowKit.intOf i).toNat)
          case atStart => exact ⟨0, by omega, rfl, HTR⟩
          case round =>
            clear HTR
            obtain ⟨m, hm, rfl, HTR⟩ := hrel
            by_cases q3 : m < x.dest.length
            · obtain ⟨ys, hy⟩ := HTR.out.2.2.1
              obtain ⟨gp, _, he, hgl, _⟩ := own_some hy q3
              obtain ⟨rfl, -⟩ : Aq = some ⟨gp, 0, none⟩ ∧ True := by injection he with he; exact ⟨he, trivial⟩
              have hgh := HTR.out.2.2.2.2 gp rfl
              have hyl : m < ys.length := by rw [hy.1]; omega
              have v0 := (hy.cellAt m (by omega)).trans (List.getElem?_eq_getElem hyl)
              have vf := hy.frozenAt m
              have HPUT := Lib.hid (fun u => HTR.out.put ⟨hgl, hgh⟩ m u)
              have g2' : (m : Int) < (x.dest.length : Int) := by omega
              clear hy he
              go_wp2_with fail
              go_roundw
              case rel => exact ⟨m + 1, by omega, by go_num, Lib.hid (HPUT.out _)⟩
              case measure => simp [RowKit.intOf]; omega
            · obtain rfl : m = x.dest.length := by omega
              obtain ⟨b8, rfl⟩ : ∃ W, W = wr := ⟨_, rfl⟩
              have hV := HTR.out.1
              have HF8 := Lib.hid (HFIN.out b8 ⟨b8, hV, Below.refl _ _⟩).2
              have HFN : Hid (∀ W, Below b8.heap.size b8 W → OwnI w g1 g2 t L (k + 1) W ∧ FsIn (Grown S1 a2 a3) W g1 f') := Lib.hid fun W hW => HFIN.out W ⟨b8, hV, hW⟩
              clear HTR HFIN hV
              go_wp2_with fail
              refine (treeF_in b8 g1 _ f' HF8.out (by omega)).mono ?_
              rintro e b9 ⟨A9, c9, bl9, rfl, hc9, hF9, hnd9, hq9⟩
              unfold fileV
              have hs9 := hq9.size
              have HB9 := Lib.hid hq9
              have hax := below_alloc (Below.refl b9.heap.size b9) (.cells #[.string f'.tree.name, .int .u8 f'.tree.kind, .string f'.tree.data, .slice A9 f'.tree.files.length c9] 25)
              have HU := Lib.hid (blk_new b9 (.cells #[.string f'.tree.name, .int .u8 f'.tree.kind, .string f'.tree.data, .slice A9 f'.tree.files.length c9] 25))
              have HAX := Lib.hid hax
              have hF10 := FT_below hF9 hax
              have hbl9 := FT_lt _ _ _ _ _ hF9
              have HVB9 := Lib.hid (FT_ownmem hF9)
              have hX10 : (b9.alloc (.cells #[.string f'.tree.name, .int .u8 f'.tree.kind, .string f'.tree.data, .slice A9 f'.tree.files.length c9] 25)).heap.size = b9.heap.size + 1 := by simp
              have HSP := Lib.hid (spoil_calls f'.tree.bulk f'.tree _ A9 c9 b8.heap.size bl9 (Nat.le_refl _) (by omega) hF10 hnd9 (by omega))
              have l0 := cell_of (j := 0) HU.out rfl
              have l1 := cell_of (j := 1) HU.out rfl
              have l2 := cell_of (j := 2) HU.out rfl
              have l3 := cell_of (j := 3) HU.out rfl
              clear hq9 hax hF9 hF10 hnd9
              go_wp2_with fail
              clear l0 l1 l2 l3
              generalize (b9.alloc (.cells #[.string f'.tree.name, .int .u8 f'.tree.kind, .string f'.tree.data, .slice A9 f'.tree.files.length c9] 25)) = X10 at *
              refine (show Calls Tryd.prog 32 #[.agg #[.string f'.tree.name, .int .u8 f'.tree.kind, .string f'.tree.data, .slice A9 f'.tree.files.length c9]] X10 _ from HSP.out).mono ?_
              clear HSP
              rintro e b11 ⟨rfl, ho11, inx, hrow⟩
              have hs11 := ho11.size
              have HO11 := Lib.hid ho11
              have HU11 := Lib.hid ((ho11.block _ (blk_lt HU.out) (fun h => by have := hbl9 _ h; omega)).trans HU.out)
              have hgu : b9.heap.size ∉ bl9 := fun h => by have := hbl9 _ h; omega
              have hfl9 : f'.tree.files.length ≤ 1099511627776 := by
                have h1 := bulkL_len f'.tree.files
                have h2 := bulk_eq f'.tree
                omega
              obtain ⟨v2, w12, hrun, g3, cap3, rfl, hg3g, hg3, _, hon12⟩ := app_file (g := b9.heap.size) hrow HVB9.out hgu (by omega) (by omega) hfl9 (.string ⟨#[109, 111, 114, 101]⟩) (.int .u8 0) (.string ⟨#[]⟩) (.slice none 0 0) (by intro u hu; simp only [List.mem_cons, List.not_mem_nil, or_false] at hu; rcases hu with rfl | rfl | rfl | rfl <;> rfl)
              have HRUN := Lib.hid hrun
              have HO12 := Lib.hid hon12
              have hs12 := hon12.size
              have HU12 := Lib.hid ((hon12.block _ (by have := blk_lt HU11.out; omega) hgu).trans HU11.out)
              have l0 := cell_of (j := 3) HU11.out rfl
              have l1 := cell_of (j := 3) HU12.out rfl
              have l2 := unfr HU12.out 3
              have HBL9 := Lib.hid hbl9
              have HB13 : Hid (∀ u, Below b8.heap.size b8 (w12.setCell ⟨b9.heap.size, 3, none⟩ u) ∧ b8.heap.size ≤ (w12.setCell ⟨b9.heap.size, 3, none⟩ u).heap.size) := Lib.hid (fun u => by
                have hlo : ∀ j, j < b8.heap.size → ¬ j ∈ bl9 := fun j hj h => by have := (hbl9 j h).2; omega
                have h1 := HB9.out.trans (HAX.out.mono (B' := b8.heap.size) hs9)
                have h2 := h1.trans (HO11.out.below (B := b8.heap.size) (by omega) hlo)
                have h3 := h2.trans (HO12.out.below (B := b8.heap.size) (by omega) hlo)
                exact ⟨h3.trans ((Only.setCell w12 ⟨b9.heap.size, 3, none⟩ u).below (B := b8.heap.size) (by omega) (fun j hj e => by have e' : j = b9.heap.size := e; omega)), by simp [World.setCell]; omega⟩)
              clear hrun hon12 ho11 hrow hbl9 HU HU11
              go_wp2_with (at_builtin; refine wpList_of_run rfl (.tmp 109) (.tmp 111) 23 rfl rfl rfl HRUN.out ?_)
              clear l0 l1 l2
              have hb12 := HB13.out (.slice (some ⟨g3, 0, none⟩) (f'.tree.files.length + 1) cap3)
              clear HB13
              generalize (w12.setCell ⟨b9.heap.size, 3, none⟩ (.slice (some ⟨g3, 0, none⟩) (f'.tree.files.length + 1) cap3)) = b12 at *
              have HB12 := Lib.hid hb12.1
              have hs12' := hb12.2
              clear hb12
              refine (trace_in b12 g1 _ f' (HFN.out b12 HB12.out).2 (by omega) HSH'.out).mono ?_
              rintro e b13 ⟨v13, rfl, hR13, hq13⟩
              have hs13 := hq13.size
              obtain ⟨AT, cT, rfl, hTI⟩ := trace_rows hR13 hs13 HSH'.out
              have HTI := Lib.hid hTI
              have HB13 := Lib.hid (HB12.out.trans (hq13.mono hs12'))
              obtain ⟨n, hn⟩ : ∃ n, f'.trace.length = n := ⟨_, rfl⟩
              rw [hn] at HTI ⊢
              have hnl : n ≤ 1000000 := by omega
              clear hR13 hTI hq13 hn HRUN HO12 HU12 HO11 HBL9 HB9 HAX HVB9
              go_wp2_with fail
              go_loopw [22] (fun i wr => ∃ m : Nat, m ≤ n ∧ i = .int .i64 m ∧ Hid (TraceI b12.heap.size (.slice AT n cT) n m b13 wr)) (fun i _ => n - (RowKit.intOf i).toNat)
              case atStart => exact ⟨0, by omega, rfl, HTI⟩
              case round =>
                clear HTI
                obtain ⟨m, hm, rfl, HTI⟩ := hrel
                obtain ⟨wt, rfl⟩ : ∃ W, W = wr := ⟨_, rfl⟩
                by_cases q4 : m < n
                · obtain ⟨hbt4, hst, xs, hxs, hrw⟩ := HTI.out
                  obtain ⟨gT, _, he, hgT, hgt⟩ := own_some hxs q4
                  obtain ⟨rfl, -⟩ : AT = some ⟨gT, 0, none⟩ ∧ True := by injection he with he; exact ⟨he, trivial⟩
                  obtain ⟨Ai, mi, ci, hxi, hmi, hri, hne⟩ := hrw m (Nat.le_refl _) q4
                  have v1 : wt.cell? ⟨gT, m * 4 + 1, none⟩ = some (.slice Ai mi ci) := (hxs.cellAt (m * 4 + 1) (by omega)).trans hxi
                  have HNE := Lib.hid hne
                  have g4 : (m : Int) < (n : Int) := by omega
                  have HV1 : Hid (wt.cell? ⟨gT, m * 4 + 1, none⟩ = some (.slice Ai mi ci) ∧ ∃ ys, wt.ownsRow b12.heap.size 9 1 (.slice Ai mi ci) mi ys) := Lib.hid ⟨v1, hri⟩
                  clear hbt4 hxs hrw hxi hri hne he
                  go_wp2_with fail
                  go_loopw [23] (fun i wr => ∃ q : Nat, q ≤ mi ∧ i = .int .i64 q ∧ Hid (TraceI b12.heap.size (.slice (some ⟨gT, 0, none⟩) n cT) n m b13 wr) ∧ Hid (wr.cell? ⟨gT, m * 4 + 1, none⟩ = some (.slice Ai mi ci) ∧ ∃ ys, wr.ownsRow b12.heap.size 9 1 (.slice Ai mi ci) mi ys)) (fun i _ => mi - (RowKit.intOf i).toNat)
                  case atStart => exact ⟨0, by omega, rfl, HTI, HV1⟩
                  case round =>
                    clear HTI HV1 v1
                    obtain ⟨q, hq, rfl, HTI, HV⟩ := hrel
                    have v1 := HV.out.1
                    by_cases q5 : q < mi
                    · obtain ⟨ys, hy⟩ := HV.out.2
                      obtain ⟨gi, _, he, hgl, _⟩ := own_some hy q5
                      obtain ⟨rfl, -⟩ : Ai = some ⟨gi, 0, none⟩ ∧ True := by injection he with he; exact ⟨he, trivial⟩
                      have hyl : q < ys.length := by rw [hy.1]; omega
                      have v0 := (hy.cellAt q (by omega)).trans (List.getElem?_eq_getElem hyl)
                      have vf := hy.frozenAt q
                      have hgne : gT ≠ gi := fun e => HNE.out gi rfl (by rw [e]; rfl)
                      have HPUT := Lib.hid (fun u => HTI.out.put (g := gi) hgl (HNE.out gi rfl) q u)
                      have HVT : Hid (∀ u, (wr.setCell ⟨gi, q, none⟩ u).cell? ⟨gT, m * 4 + 1, none⟩ = some (.slice (some ⟨gi, 0, none⟩) mi ci) ∧ ∃ ys, (wr.setCell ⟨gi, q, none⟩ u).ownsRow b12.heap.size 9 1 (.slice (some ⟨gi, 0, none⟩) mi ci) mi ys) := Lib.hid (fun u => ⟨(cell_sameO (Below.heap_setCell _ _ _ _ (by simpa using hgne)) _).trans v1, own_any hy gi q u⟩)
                      have g5 : (q : Int) < (mi : Int) := by omega
                      clear hy he
                      go_wp2_with fail
                      go_roundw
                      case rel => exact ⟨q + 1, by omega, by go_num, Lib.hid (HPUT.out _), Lib.hid (HVT.out _)⟩
                      case measure => simp [RowKit.intOf]; omega
                    · obtain rfl : q = mi := by omega
                      have HROW := Lib.hid (fun v0 v1 v2 v3 => HTI.out.row hgT v0 v1 v2 v3 q4)
                      obtain ⟨_, _, xs, hxs, _⟩ := HTI.out
                      have hxl : xs.length = n * 4 := hxs.1
                      have k0 := (hxs.cellAt (m * 4) (by omega)).trans (List.getElem?_eq_getElem (show m * 4 < xs.length by omega))
                      have k2 := (hxs.cellAt (m * 4 + 2) (by omega)).trans (List.getElem?_eq_getElem (show m * 4 + 2 < xs.length by omega))
                      have k3 := (hxs.cellAt (m * 4 + 3) (by omega)).trans (List.getElem?_eq_getElem (show m * 4 + 3 < xs.length by omega))
                      have f0 := hxs.frozenAt (m * 4)
                      have f1 := hxs.frozenAt (m * 4 + 1)
                      have f2 := hxs.frozenAt (m * 4 + 2)
                      have f3 := hxs.frozenAt (m * 4 + 3)
                      clear hxs
                      go_wp2_with fail
                      go_roundw
                      case rel => exact ⟨m + 1, by omega, by go_num, Lib.hid (HROW.out _ _ _ _)⟩
                      case measure => simp [RowKit.intOf]; omega
                · obtain rfl : m = n := by omega
                  have HEND := Lib.hid (HFN.out wt (HB13.out.trans (HTI.out.1.mono hs12'))).1
                  clear HFN HTI
                  go_wp2_with fail
                  go_roundw
                  case rel => exact ⟨k + 1, by omega, by go_num, HEND⟩
                  case measure => simp [RowKit.intOf]; omega
  
    · obtain rfl : k = L.length := by omega
      obtain ⟨S1, S2, f, h1, h2, h3, h4, h5, h7, h9, h10, h11, hsh, h13⟩ := HI.out
      have hsl := HSL.out
      have hsk := own_steps_le L L.length
      have hfb : f.tree.bulk ≤ 1099511627776 := by omega
      have hfl : f.trace.length ≤ 1000000 := by omega
      have H1 := Lib.hid h1
      have H2 := Lib.hid h2
      have HSH := Lib.hid hsh
      clear h1 h2 h3 h4 h5 h7 h9 h10 h11 hsh hsl hsk HI
      go_wp2_with fail
      refine (tree_in wo g1 S1 f H1.out hfb).mono ?_
      rintro e w4 ⟨A4, c4, rfl, hc4, hR4, hq4⟩
      obtain ⟨_, _, hC4⟩ := Kd.R_reads' hR4
      have HC4 := Lib.hid hC4
      have HQ4 := Lib.hid hq4
      clear hR4 hC4
      unfold fileV
      have hb4 := bstep h13 h13.size hq4
      go_wp2_with fail
      refine (tree_in w4 g2 S2 f (H2.out.below hq4) hfb).mono ?_
      rintro e w5 ⟨A5, c5, rfl, hc5, hR5, hq5⟩
      obtain ⟨_, _, hC5⟩ := Kd.R_reads' hR5
      have HC5 := Lib.hid hC5
      clear hR5 hC5
      unfold fileV
      have hb5 := bstep hb4 hb4.size hq5
      go_wp2_with fail
      refine (show Calls Tryd.prog 14 #[.agg #[.string f.tree.name, .int .u8 f.tree.kind, .string f.tree.data, .slice A4 f.tree.files.length c4], .agg #[.string f.tree.name, .int .u8 f.tree.kind, .string f.tree.data, .slice A5 f.tree.files.length c5]] w5 _ from sameC f.tree A4 A5 c4 c5 w5 hfb (Kd.C_below HC4.out hq5) hc4 HC5.out hc5).mono ?_
      rintro e w6 ⟨rfl, hq6⟩
      have hb6 := bstep hb5 hb5.size hq6
      have hq46 := hq4.trans ((hq5.mono hq4.size).trans (hq6.mono (by have := hq4.size; have := hq5.size; omega)))
      have HQ46 := Lib.hid hq46
      clear HC4 HC5 hq4 hq5 hq6 hq46
      go_wp2_with fail
      refine (trace_in w6 g1 S1 f (H1.out.below HQ46.out) hfl HSH.out).mono ?_
      rintro e w7 ⟨v7, rfl, hR7, hq7⟩
      obtain ⟨A7, c7, rfl, hc7, hC7⟩ := Kd.R_reads hR7
      have HC7 := Lib.hid hC7
      have hb7 := bstep hb6 hb6.size hq7
      clear hR7 hC7
      go_wp2_with fail
      refine (trace_in w7 g2 S2 f ((H2.out.below HQ46.out).below hq7) hfl HSH.out).mono ?_
      rintro e w8 ⟨v8, rfl, hR8, hq8⟩
      obtain ⟨A8, c8, rfl, hc8, hC8⟩ := Kd.R_reads hR8
      have HC8 := Lib.hid hC8
      have hb8 := bstep hb7 hb7.size hq8
      clear hR8 hC8
      go_wp2_with fail
      refine (sameC_calls A7 c7 f.trace A8 c8 w8 (Kd.C_below HC7.out hq8) hc7 HC8.out hc8 hfl (fun x hx => ⟨by have := (HSH.out x hx).1; omega, by have := (HSH.out x hx).2; omega⟩)).mono ?_
      rintro e w9 ⟨rfl, hq9⟩
      have hb9 := bstep hb8 hb8.size hq9
      go_wp2_with fail
      go_ret
      exact ⟨rfl, hb9⟩
end Go.Proofs.YthlcjjhfkldmhaaDoor.G
