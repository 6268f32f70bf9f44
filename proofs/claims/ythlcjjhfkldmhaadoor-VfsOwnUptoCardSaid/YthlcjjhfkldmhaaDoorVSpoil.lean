/- spoil: a tree that is its owner's alone is written over; nothing else turns. Printed by wip/tools/gen_vspoil.py. -/
import Derived.Test.YthlcjjhfkldmhaaDoorTTurn
import Derived.RangeFuncBox
set_option linter.unusedVariables false
set_option linter.unusedSimpArgs false
namespace Go.Proofs.YthlcjjhfkldmhaaDoor.G
open Go.RowKit Go.Lib Go.Proofs.YthlcjjhfkldmhaaDoorW.PrintWords Go.Proofs.YthlcjjhfkldmhaaDoorW.PrintLast
set_option linter.unusedVariables false
set_option linter.unusedSimpArgs false

theorem own_keep {w w' : World} {B : Nat} {e m : Nat} {v : Value} {n : Nat} {xs : List Value} (h : w.ownsRow B e m v n xs) (hk : ∀ g, v.ownBlock = some g → w'.heap[g]? = w.heap[g]?) : w'.ownsRow B e m v n xs := by
  refine ⟨h.1, h.2.imp id ?_⟩
  rintro ⟨g, cap, cur, rfl, h2, h3, h4⟩
  exact ⟨g, cap, cur, rfl, h2, (hk g rfl).trans h3, h4⟩
theorem only_below {X Y : World} (h : Below X.heap.size X Y) (F : Nat → Prop) : Only F X Y := ⟨h.os, h.tape, h.output, h.size, fun k hk _ => h.block k hk⟩
def bmS (n m : Nat) : Array Bool := ((List.range n).map (fun j => m.testBit j)).toArray
theorem exec_app {P : Program} {o : Oper} {ev : Operand → Value} {w w' : World} {vs vx v' : Value} (s x : Operand) (t : TypeId) (ho : o.op = .call { callee := .builtin .append, args := #[s, x], argTypes := #[t, t] }) (hs : ev s = vs) (hx : ev x = vx)
    (hr : (Builtin.append_ #[t, t] o.type #[vs, vx]).run P w = .ok v' w') : (execOp ev o).run P w = .ok (.value v') w' := by
  unfold execOp
  simp only [ho, resolve, invoke, builtin, Sem.run_bind, Sem.run_pure, Result.andThen_ok, List.map_toArray, List.map_cons, List.map_nil, hs, hx, hr]
theorem own_two {w : World} {B : Nat} {e : Nat} {g n c : Nat} {xs : List Value} (h : w.ownsRow B e 4 (.slice (some ⟨g, 0, none⟩) n c) n xs) (i : Nat) (u : Value) : (w.setCell ⟨g, i, none⟩ u).ownsRow B e 4 (.slice (some ⟨g, 0, none⟩) n c) n (xs.set i u) := (h.stored i u).1
/-- What a round of spoil keeps. -/
def SpoilI (B : Nat) (xf : List File) (A : Option Addr) (c : Nat) (bl : List Nat) (w : World) (k : Nat) (wr : World) : Prop :=
  Only (fun j => j ∈ bl) w wr ∧ ∃ inner b2, wr.ownsRow B 25 4 (.slice A xf.length c) xf.length inner ∧ LT B (xf.drop k) wr (inner.drop (k * 4)) b2 ∧ b2.Nodup ∧ (∀ j ∈ b2, j ∈ bl ∧ (Value.slice A xf.length c).ownBlock ≠ some j) ∧ ∀ g, (Value.slice A xf.length c).ownBlock = some g → g ∈ bl
theorem FT_ltL {B : Nat} {l : List File} {w : World} {inner : List Value} {bs : List Nat} (h : LT B l w inner bs) (j : Nat) (hj : j ∈ bs) : j < w.heap.size := (LT_lt B l w inner bs h j hj).1
theorem wpList_of_run {P : Program} {ops : Array Oper} {rest : List Oper} {o : Oper} {a : Act} {Q : Exit → Act → World → Prop} {w w' : World} {v vx v' : Value} (hgd : o.guard = none) (s x : Operand) (t : TypeId)
    (ho : o.op = .call { callee := .builtin .append, args := #[s, x], argTypes := #[t, t] }) (hs : a.eval s = v) (hx : a.eval x = vx) (hr : (Builtin.append_ #[t, t] o.type #[v, vx]).run P w = .ok v' w') (h : wpList P ops Q rest (a.put o.dst v') w') : wpList P ops Q (o :: rest) a w := by
  refine wpList_plain hgd fun K hK => ?_
  unfold Oper.wp execOp
  simp only [ho, resolve, invoke, builtin, Sem.run_bind, Sem.run_pure, Result.andThen_ok, List.map_toArray, List.map_cons, List.map_nil, hs, hx, hr]
  exact hK _ _ h
theorem only_set {F : Nat → Prop} {wr X : World} (h : Only F wr X) {g2 : Nat} (hg : F g2 ∨ wr.heap.size ≤ g2) (i : Nat) (u : Value) : Only F wr (X.setCell ⟨g2, i, none⟩ u) :=
  h.trans (Only.setCell _ _ _) (fun _ _ h => h) fun j hj e => hg.elim (fun h => by have e' : j = g2 := e; exact e' ▸ h) fun h => by have e' : j = g2 := e; omega
theorem own_put2 {w : World} {B : Nat} {e m : Nat} {g n c : Nat} {xs : List Value} (h : w.ownsRow B e m (.slice (some ⟨g, 0, none⟩) n c) n xs) {g2 : Nat} (hg : g2 ≠ g) (i : Nat) (u : Value) : (w.setCell ⟨g2, i, none⟩ u).ownsRow B e m (.slice (some ⟨g, 0, none⟩) n c) n xs :=
  own_keep h fun g' hg' => by
    obtain rfl : g = g' := Option.some.inj hg'
    exact Below.heap_setCell _ _ _ _ (by simp only; omega)
theorem spoil_done {B : Nat} {xf : List File} {c g k : Nat} {bl bx br : List Nat} {w wr W : World} {inner inner' rest : List Value} (hk : k < xf.length) (hon : Only (fun j => j ∈ bl) w wr) (hw : ∀ j ∈ bl, j < w.heap.size) (hL : LT B (xf.drop (k + 1)) wr rest br) (hin : inner.drop (k * 4 + 4) = rest) (hnd : (bx ++ br).Nodup) (hb2 : ∀ j ∈ bx ++ br, j ∈ bl ∧ (Value.slice (some ⟨g, 0, none⟩) xf.length c).ownBlock ≠ some j)
    (hgb : g ∈ bl) (ho : Only (fun j => j ∈ bx ∨ j = g) wr W) (hr : W.ownsRow B 25 4 (.slice (some ⟨g, 0, none⟩) xf.length c) xf.length inner') (hd : inner'.drop (k * 4 + 4) = inner.drop (k * 4 + 4)) : SpoilI B xf (some ⟨g, 0, none⟩) c bl w (k + 1) W := by
  have hnd2 := List.nodup_append.1 hnd
  refine ⟨hon.trans ho (fun _ _ h => h) (fun j _ h => h.elim (fun h => (hb2 j (List.mem_append_left _ h)).1) fun h => h ▸ hgb), inner', br, hr, ?_, hnd2.2.1, fun j hj => hb2 j (List.mem_append_right _ hj), fun g' h => by
    obtain rfl : g = g' := Option.some.inj h
    exact hgb⟩
  rw [show (k + 1) * 4 = k * 4 + 4 by omega, hd, hin]
  refine LT_move _ _ _ _ _ _ hL fun j hj => ho.block j (FT_ltL hL j hj) fun h => ?_
  rcases h with h | h
  · exact hnd2.2.2 j h j hj rfl
  · exact (hb2 j (List.mem_append_right _ hj)).2 (by rw [h]; rfl)
theorem news4 (W : World) (cs : List Value) (t : TypeId) : ∀ j u, cs[j]? = some u → (W.alloc (.cells cs.toArray t)).cell? ((⟨W.heap.size, 0, none⟩ : Addr).add j) = some u := fun j u h => by
  rw [add_at4]
  exact cell_of (blk_new W (.cells cs.toArray t)) (by simpa using h)
/-- What append of one file leaves: the child's row behind it, and all else. -/
def AppF (B g : Nat) (bx : List Nat) (W4 w5 : World) (m : Nat) (v2 : Value) : Prop :=
  ∃ g2 cap2, v2 = .slice (some ⟨g2, 0, none⟩) (m + 1) cap2 ∧ g2 ≠ g ∧ (g2 ∈ bx ∨ W4.heap.size ≤ g2) ∧ (∃ cs : Array Value, m * 4 + 4 ≤ cs.size ∧ w5.heap[g2]? = some (.cells cs 25 (0, 0))) ∧ Only (fun j => j ∈ bx) W4 w5
theorem app_file {B g c1 m : Nat} {A1 : Option Addr} {bx : List Nat} {W4 : World} {inx : List Value} (hrow : W4.ownsRow B 25 4 (.slice A1 m c1) m inx) (hvb : ∀ g', (Value.slice A1 m c1).ownBlock = some g' → g' ∈ bx) (hgx : g ∉ bx) (hg : g < W4.heap.size) (hB : B ≤ W4.heap.size) (hm : m ≤ 1099511627776) (a b d e : Value) (h1 : ∀ u ∈ [a, b, d, e], u.oneCell' = true) :
    ∃ v2 w5, (Builtin.append_ #[23, 23] 23 #[.slice A1 m c1, .slice (some ⟨W4.heap.size, 0, none⟩) 1 1]).run Tryd.prog (W4.alloc (.cells #[a, b, d, e] 25)) = .ok v2 w5 ∧ AppF B g bx W4 w5 m v2 := by
  obtain ⟨i0, hi0, hz0, hzs, hzb⟩ := infoF
  have hba := below_alloc (Below.refl W4.heap.size W4) (.cells #[a, b, d, e] 25)
  obtain ⟨v2, w5, hrun, ho2, hg2, _, hat⟩ := run_append_own_at (P := Tryd.prog) (W4.alloc (.cells #[a, b, d, e] 25)) B 23 23 25 i0 _ 4 64 Tryd.underlying23 hi0 hz0 hzs hzb (by decide) (by decide) (.slice A1 m c1) m inx (hrow.alloc _) ⟨W4.heap.size, 0, none⟩ 1 1 [a, b, d, e] rfl (news4 W4 [a, b, d, e] _) h1 (by simp only [maxLen]; omega) (by omega) (by have := hba.size; omega)
  obtain ⟨g2, cap2, rfl⟩ := ownsRow_succ ho2
  refine ⟨_, w5, hrun, g2, cap2, rfl, ?_, ?_, ?_, ?_⟩
  · rintro rfl
    rcases hat with h | h
    · exact hgx (hvb _ h.symm)
    · have h' : g2 = (W4.alloc (.cells #[a, b, d, e] 25)).heap.size := Option.some.inj h
      simp at h'
      omega
  · rcases hat with h | h
    · exact .inl (hvb _ h.symm)
    · have h' : g2 = (W4.alloc (.cells #[a, b, d, e] 25)).heap.size := Option.some.inj h
      simp at h'
      exact .inr (by omega)
  · rcases ho2.2 with ⟨h', _⟩ | ⟨g', cap', cur, h', hb, hg, hnc, hcm, hcs, htake⟩
    · cases h'
    · injection h' with h' _ h''
      injection h' with h'
      injection h' with h'
      subst h' h''
      exact ⟨cur, by omega, hg⟩
  · exact (only_below hba _).trans (K := fun j => j ∈ bx) (Only.grown_of hg2) (fun _ _ h => h) (fun j _ h => hvb j h)
set_option maxHeartbeats 8000000 in
set_option maxRecDepth 100000 in
theorem spoil_calls : ∀ (n : Nat) (x : File) (w : World) (A : Option Addr) (c B : Nat) (bl : List Nat), x.bulk ≤ n → x.bulk ≤ 1099511627776 → FT B x w (.slice A x.files.length c) bl → bl.Nodup → B ≤ w.heap.size →
    Calls Tryd.prog 32 #[fileV x A c] w fun e w' => e = .returned (.tuple #[]) ∧ Only (fun j => j ∈ bl) w w' ∧ ∃ inner, w'.ownsRow B 25 4 (.slice A x.files.length c) x.files.length inner := by
  intro n
  induction n with
  | zero => intro x w A c B bl h; have := bulk_eq x; omega
  | succ n ih =>
  intro x w A c B bl hn hbk hft hnd hB
  have HI := Lib.hid (fun (x : File) w A c B bl h1 h2 h3 h4 h5 => ih x w A c B bl h1 h2 h3 h4 h5)
  clear ih
  have hbe := bulk_eq x
  have HN' : ∀ y ∈ x.files, y.bulk ≤ n ∧ y.bulk ≤ 1099511627776 := fun y hy => by have := bulk_child hy; omega
  obtain ⟨xn, xk, xd, xf⟩ := x
  have hlen := bulkL_len xf
  have hbe2 : (File.mk xn xk xd xf).bulk = 4 + xn.size + xd.size + bulkL xf := hbe
  have hxl : xf.length ≤ 1099511627776 := by omega
  have HN : Hid (∀ y ∈ xf, y.bulk ≤ n ∧ y.bulk ≤ 1099511627776) := Lib.hid HN'
  have HS0 : SpoilI B xf A c bl w 0 w := by
    refine ⟨Only.refl _ _, ?_⟩
    rw [FT_eq] at hft
    rcases hft with ⟨h1, h2, h3⟩ | ⟨g, inner, bs, hv, rfl, ho, hL⟩
    · have h1' : xf = [] := h1
      subst h1' h3
      injection h2 with h2 _ h3
      subst h2 h3
      exact ⟨[], [], World.ownsRow_nil _ _ _ _, by rw [List.drop_nil, List.drop_nil, LT]; exact ⟨rfl, rfl⟩, List.nodup_nil, fun _ h => (by cases h), fun g h => (by cases h)⟩
    · rw [List.nodup_cons] at hnd
      refine ⟨inner, bs, ho, by simpa using hL, hnd.2, fun j hj => ⟨List.mem_cons_of_mem _ hj, fun e => ?_⟩, fun g' h => ?_⟩
      · have e2 : (some j : Option Nat) = some g := e.symm.trans hv
        injection e2 with e2
        exact hnd.1 (e2 ▸ hj)
      · have e2 : (some g' : Option Nat) = some g := h.symm.trans hv
        injection e2 with e2
        rw [e2]
        exact List.mem_cons_self
  have HBL := Lib.hid (fun j (hj : j ∈ bl) => FT_lt _ _ _ _ _ hft j hj)
  have hb0 := below_alloc (Below.refl w.heap.size w) (.cells #[.string xn, .int .u8 xk, .string xd, .slice A xf.length c] 25)
  have HX0 := Lib.hid (blk_new w (.cells #[.string xn, .int .u8 xk, .string xd, .slice A xf.length c] 25))
  have HI0 : Hid (SpoilI B xf A c bl w 0 (w.alloc (.cells #[.string xn, .int .u8 xk, .string xd, .slice A xf.length c] 25))) := Lib.hid (by
    obtain ⟨h1, inner, b2, h2, h3, h4, h5, h6⟩ := HS0
    exact ⟨h1.trans (only_below hb0 _) (fun _ _ h => h) (fun _ _ h => h), inner, b2, own_keep h2 fun g hg => hb0.block g (h2.lt g hg).2, LT_move _ _ _ _ _ _ h3 fun k hk => hb0.block k (HBL.out k (h5 k hk).1).1, h4, h5, h6⟩)
  clear hlen hbe hbe2 hn hbk HN' hft hnd HS0
  go_enter Tryd.func32, Tryd.ntmps32
  unfold fileV
  go_wp2_with fail
  generalize (w.alloc (.cells #[.string xn, .int .u8 xk, .string xd, .slice A xf.length c] 25)) = W0 at *
  go_loopw [2] (fun i wr => ∃ k : Nat, k ≤ xf.length ∧ i = .int .i64 k ∧ Hid (SpoilI B xf A c bl w k wr) ∧ Hid (wr.heap[w.heap.size]? = some (.cells #[.string xn, .int .u8 xk, .string xd, .slice A xf.length c] 25 (0, 0)))) (fun i _ => xf.length - (RowKit.intOf i).toNat)
  case atStart => exact ⟨0, by omega, rfl, HI0, HX0⟩
  case round =>
    clear HI0 HX0
    obtain ⟨k, hk, rfl, HS, HX⟩ := hrel
    have l0 := cell_of (j := 3) HX.out rfl
    by_cases q1 : k < xf.length
    · obtain ⟨hon, inner, b2, ho, hL, hnd, hb2, hgb⟩ := HS.out
      rw [List.drop_eq_getElem_cons q1, LT] at hL
      obtain ⟨v, bx, br, rest, hin, rfl, hF, hLr⟩ := hL
      have hmem := HN.out _ (List.getElem_mem q1)
      obtain ⟨A1, c1, rfl, hc1, hC1⟩ := FT_reads _ _ _ _ _ hF
      have hbl := bulkL_len xf[k].files
      have hbe := bulk_eq xf[k]
      have hfl : xf[k].files.length ≤ 1099511627776 := by omega
      generalize xf[k] = y at *
      obtain ⟨g, hA, hgt⟩ : ∃ g, A = some ⟨g, 0, none⟩ ∧ g ∈ bl := by
        rcases ho.2 with ⟨h1, h2⟩ | ⟨g, cap, cur, h1, _⟩
        · omega
        · injection h1 with h1
          exact ⟨g, h1, hgb g (by rw [h1]; rfl)⟩
      subst hA
      have hsz := HBL.out g hgt
      have hws := hon.size
      have hat : ∀ j u, j < 4 → inner[k * 4 + j]? = some u → wr.cell? ⟨g, k * 4 + j, none⟩ = some u := fun j u hj h => (ho.cellAt (k * 4 + j) (by omega)).trans h
      have hdr : ∀ j, inner[k * 4 + j]? = (Value.string y.name :: .int .u8 y.kind :: .string y.data :: .slice A1 y.files.length c1 :: rest)[j]? := fun j => by rw [← hin, List.getElem?_drop]
      have p0 : wr.cell? ⟨g, k * 4, none⟩ = some (.string y.name) := hat 0 _ (by omega) (hdr 0)
      have p1 := hat 1 _ (by omega) (hdr 1)
      have p2 := hat 2 _ (by omega) (hdr 2)
      have p3 := hat 3 _ (by omega) (hdr 3)
      have g1 : (k : Int) < (xf.length : Int) := by omega
      have gk : (k : Int) * 4 = ((k * 4 : Nat) : Int) := by omega
      clear hat
      have hbxl := FT_lt _ _ _ _ _ hF
      have hgx : g ∉ bx := fun h => (hb2 g (List.mem_append_left _ h)).2 rfl
      have HC := Lib.hid (show Calls Tryd.prog 32 #[.agg #[.string y.name, .int .u8 y.kind, .string y.data, .slice A1 y.files.length c1]] wr _ from HI.out y wr A1 c1 B bx hmem.1 hmem.2 hF (List.nodup_append.1 hnd).1 (by omega))
      have HO := Lib.hid ho
      have HP3 := Lib.hid (hdr 3)
      have HVB : Hid (∀ g', (Value.slice A1 y.files.length c1).ownBlock = some g' → g' ∈ bx) := Lib.hid (by
        rw [FT_eq] at hF
        rcases hF with ⟨_, h2, _⟩ | ⟨g'', _, _, h2, h3, _⟩
        · intro g' h
          rw [h2] at h
          cases h
        · intro g' h
          obtain rfl : g'' = g' := Option.some.inj (h2.symm.trans h)
          rw [h3]
          exact List.mem_cons_self)
      have HLR := Lib.hid hLr
      have HON := Lib.hid hon
      have HIN := Lib.hid hin
      have HB2 := Lib.hid hb2
      have HGB := Lib.hid hgb
      have HND := Lib.hid hnd
      clear HI hmem hF hC1 hdr ho hLr hon hin hb2 hgb hnd
      go_wp2_with fail
      refine HC.out.mono ?_
      clear HC
      rintro e w1 ⟨rfl, hon1, inx, hox⟩
      have hs1 := hon1.size
      have HO1 := Lib.hid (own_keep HO.out fun g' hg' => by
        obtain rfl : g = g' := Option.some.inj hg'
        exact hon1.block g (by omega) hgx)
      have HX1 := Lib.hid ((hon1.block _ (by have := blk_lt HX.out; omega) (fun h => by have := (HB2.out _ (List.mem_append_left _ h)).1; have := HBL.out _ this; omega)).trans HX.out)
      have HON1 := Lib.hid hon1
      have HOX := Lib.hid hox
      have hil : inner.length = xf.length * 4 := HO.out.1
      have hgw : g ≠ w.heap.size := by omega
      have hi2 : k * 4 + 2 < inner.length := by omega
      have hi0 : k * 4 < inner.length := by omega
      have p2' := (HO1.out.cellAt (k * 4 + 2) (by omega)).trans (List.getElem?_eq_getElem hi2)
      have p0' := (HO1.out.cellAt (k * 4) (by omega)).trans (List.getElem?_eq_getElem hi0)
      have f2' := HO1.out.frozenAt (k * 4 + 2)
      have hL1 : ∀ u, (w1.setCell ⟨g, k * 4 + 2, none⟩ u).cell? ⟨w.heap.size, 3, none⟩ = some (.slice (some ⟨g, 0, none⟩) xf.length c) := fun u => cell_of ((Below.heap_setCell _ _ _ _ (by simp only; omega)).trans HX1.out) rfl
      have hP0 : ∀ u, (w1.setCell ⟨g, k * 4 + 2, none⟩ u).cell? ⟨g, k * 4, none⟩ = some inner[k * 4] := fun u => ((own_two HO1.out (k * 4 + 2) u).cellAt (k * 4) (by omega)).trans (by rw [List.getElem?_set_ne (by omega)]; exact List.getElem?_eq_getElem hi0)
      have hF0 : ∀ u, (w1.setCell ⟨g, k * 4 + 2, none⟩ u).frozen? ⟨g, k * 4, none⟩ = false := fun u => (own_two HO1.out (k * 4 + 2) u).frozenAt (k * 4)
      have l1 := cell_of (j := 3) HX1.out rfl
      clear p0 p1 p2 p3 l0 hon1 hox
      go_wp2_with fail
      clear p2' p0' f2' hL1 hP0 hF0 l1
      obtain ⟨W3, hW3⟩ : ∃ W, (w1.setCell ⟨g, k * 4 + 2, none⟩ (.string ⟨#[115, 112, 111, 105, 108, 116]⟩)).setCell ⟨g, k * 4, none⟩ (.string ⟨#[115, 112, 111, 105, 108, 116]⟩) = W := ⟨_, rfl⟩
      have HO3 := Lib.hid (own_two (own_two HO1.out (k * 4 + 2) (.string ⟨#[115, 112, 111, 105, 108, 116]⟩)) (k * 4) (.string ⟨#[115, 112, 111, 105, 108, 116]⟩))
      have HG3 : Hid (∀ j, j ≠ g → W3.heap[j]? = w1.heap[j]?) := Lib.hid fun j hj => by
        rw [← hW3]
        exact (Below.heap_setCell _ _ _ _ (by simpa using hj)).trans (Below.heap_setCell _ _ _ _ (by simpa using hj))
      have hs3 : W3.heap.size = w1.heap.size := by rw [← hW3]; simp [World.setCell]
      have hon3 : Only (fun j => j = g) w1 W3 := by
        rw [← hW3]
        exact (Only.setCell _ _ _).trans (Only.setCell _ _ _) (fun _ _ h => h) (fun _ _ h => h)
      have HON3 := Lib.hid hon3
      rw [hW3] at HO3 ⊢
      clear hW3 hon3
      refine start_ (n := 4) (S := fun _ => True) (ds := []) #[false, false, false, false] (by kernel_rfl) rfl rfl trivial (fun hHeld => ?_)
      have hD := bdrew (Below.refl W3.heap.size W3)
      refine one_ (i := 0) (N := some 26) #[true, false, false, false] rfl rfl (by kernel_rfl) (by decide) (fun K hK => ?_)
      refine value_ (w1 := ?_) (v := ?_) (by rfl) rfl ?_ ?_
      rotate_left 2
      · go_simp
        constructor
        · rfl
        · rfl
      refine hK.out _ _ trivial (fun _ => ?_)
      refine two_ (i := 1) (j := 2) (Ni := none) (Nj := none) #[true, true, false, false] #[true, false, true, false] rfl rfl rfl rfl (by kernel_rfl) (by decide) (by decide) (fun K hK => ?_) (fun K hK => ?_)
      · refine skip_ (w1 := ?_) (by rfl) rfl ?_ ?_
        rotate_left
        · go_simp
          rfl
        refine hK.out _ _ trivial (fun _ => ?_)
        refine one_ (i := 2) (N := none) #[true, true, true, false] rfl rfl (by kernel_rfl) (by decide) (fun K hK => ?_)
        refine skip_ (w1 := ?_) (by rfl) rfl ?_ ?_
        rotate_left
        · go_simp
          rfl
        refine hK.out _ _ trivial (fun _ => ?_)
        refine one_ (i := 3) (N := some 27) #[true, true, true, true] rfl rfl (by kernel_rfl) (by decide) (fun K hK => ?_)
        refine value_ (w1 := ?_) (v := ?_) (by rfl) rfl ?_ ?_
        rotate_left 2
        · go_simp
          constructor
          · rfl
          · rfl
        refine hK.out _ _ trivial (fun _ => ?_)
        refine done_ (by kernel_rfl) ?_
        have hb4 : Below W3.heap.size W3 (W3.alloc (.cells #[.bool false] 4)).drew := bdrew (below_alloc (Below.refl W3.heap.size W3) _)
        generalize (W3.alloc (.cells #[.bool false] 4)).drew = W4 at *
        have hs4 := hb4.size
        have HX4 := Lib.hid ((hb4.block _ (by have := blk_lt HX1.out; omega)).trans ((HG3.out _ (by omega)).trans HX1.out))
        have HO4 := Lib.hid (own_keep HO3.out fun g' hg' => hb4.block g' (HO3.out.lt g' hg').2)
        have HOX4 := Lib.hid (own_keep HOX.out fun g' hg' => (hb4.block g' (by have := (HOX.out.lt g' hg').2; omega)).trans (HG3.out g' fun e => hgx (e ▸ HVB.out g' hg')))
        have HON4 : Hid (Only (fun j => j ∈ bx ∨ j = g) wr W4) := Lib.hid ((HON1.out.trans HON3.out (K := fun j => j ∈ bx ∨ j = g) (fun _ _ h => .inl h) (fun _ _ h => .inr h)).trans (only_below hb4 (fun _ => False)) (fun _ _ h => h) (fun _ _ h => h.elim))
        have hsz4 := HON4.out.size
        have hBX : B ≤ W4.heap.size := by omega
        have l3 := cell_of (j := 3) HX4.out rfl
        have p3 : W4.cell? ⟨g, k * 4 + 3, none⟩ = some (.slice A1 y.files.length c1) := (HO4.out.cellAt (k * 4 + 3) (by omega)).trans (by rw [List.getElem?_set_ne (by omega), List.getElem?_set_ne (by omega)]; exact HP3.out)
        have f3 := HO4.out.frozenAt (k * 4 + 3)
        have hin4 : inner.drop (k * 4 + 4) = rest := by rw [← List.drop_drop, HIN.out]; rfl
        have hD4 := bdrew (Below.refl W4.heap.size W4)
        have HX5 := Lib.hid ((hD4.block _ (blk_lt HX4.out)).trans HX4.out)
        have HO5 := Lib.hid (own_keep HO4.out fun g' hg' => hD4.block g' (HO4.out.lt g' hg').2)
        have HOX5 := Lib.hid (own_keep HOX4.out fun g' hg' => hD4.block g' (HOX4.out.lt g' hg').2)
        have HON5 := Lib.hid (HON4.out.trans (only_below hD4 (fun _ => False)) (K := fun j => j ∈ bx ∨ j = g) (fun _ _ h => h) (fun _ _ h => h.elim))
        have hs5 : W4.drew.heap.size = W4.heap.size := rfl
        have hglt := (HO4.out.lt g rfl).2
        have hst : W4.drew.cell? ⟨w.heap.size, 3, none⟩ = some (.slice (some ⟨g, 0, none⟩) xf.length c) ∧ W4.drew.cell? ⟨g, k * 4 + 3, none⟩ = some (.slice A1 y.files.length c1) := ⟨cell_of HX5.out rfl, p3⟩
        have ha5 : ∀ (cs : Array Value), W4.drew.heap.size = W4.heap.size ∧ (W4.drew.alloc (.cells cs 25)).cell? ⟨w.heap.size, 3, none⟩ = some (.slice (some ⟨g, 0, none⟩) xf.length c) ∧ (W4.drew.alloc (.cells cs 25)).cell? ⟨g, k * 4 + 3, none⟩ = some (.slice A1 y.files.length c1) := fun cs => ⟨rfl, ((below_alloc (Below.refl W4.drew.heap.size W4.drew) _).cell (World.block_lt_of_cell? _ _ hst.1)).trans hst.1, ((below_alloc (Below.refl W4.drew.heap.size W4.drew) _).cell (World.block_lt_of_cell? _ _ hst.2)).trans hst.2⟩
        have HA5 := Lib.hid ha5
        clear l3 p3 f3 ha5
        go_wp2_with fail
        refine start_ (n := 15) (S := fun w' => w'.cell? ⟨w.heap.size, 3, none⟩ = some (.slice (some ⟨g, 0, none⟩) xf.length c) ∧ w'.cell? ⟨g, k * 4 + 3, none⟩ = some (.slice A1 y.files.length c1)) (ds := [14]) (bmS 15 0) (by kernel_rfl) rfl rfl hst (fun hHeld => ?_)
        refine pure_ (i := 0) (N := some 41) (v := ?_) (a' := ?_) (bmS 15 1) rfl rfl (by kernel_rfl) (fun _ _ _ h => h) (Or.inl ⟨by rfl, ?_⟩) ?_ ?_
        rotate_left
        · intro w'
          go_simp
          with_reducible rfl
        rotate_left
        · simp only [Act.put, List.setIfInBounds_toArray, List.set_cons_zero, List.set_cons_succ, i64_w, i32_w]
          rfl
        refine pure_ (i := 2) (N := some 43) (v := ?_) (a' := ?_) (bmS 15 5) rfl rfl (by kernel_rfl) (fun _ _ _ h => h) (Or.inl ⟨by rfl, ?_⟩) ?_ ?_
        rotate_left
        · intro w'
          go_simp
          with_reducible rfl
        rotate_left
        · simp only [Act.put, List.setIfInBounds_toArray, List.set_cons_zero, List.set_cons_succ, i64_w, i32_w]
          rfl
        refine pure_ (i := 3) (N := some 44) (v := ?_) (a' := ?_) (bmS 15 13) rfl rfl (by kernel_rfl) (fun _ _ _ h => h) (Or.inl ⟨by rfl, ?_⟩) ?_ ?_
        rotate_left
        · intro w'
          go_simp
          with_reducible rfl
        rotate_left
        · simp only [Act.put, List.setIfInBounds_toArray, List.set_cons_zero, List.set_cons_succ, i64_w, i32_w]
          rfl
        refine pure_ (i := 5) (N := some 46) (v := ?_) (a' := ?_) (bmS 15 45) rfl rfl (by kernel_rfl) (fun _ _ _ h => h) (Or.inl ⟨by rfl, ?_⟩) ?_ ?_
        rotate_left
        · intro w'
          go_simp
          with_reducible rfl
        rotate_left
        · simp only [Act.put, List.setIfInBounds_toArray, List.set_cons_zero, List.set_cons_succ, i64_w, i32_w]
          rfl
        refine pure_ (i := 9) (N := some 50) (v := ?_) (a' := ?_) (bmS 15 557) rfl rfl (by kernel_rfl) (fun _ _ _ h => h) (Or.inl ⟨by rfl, ?_⟩) ?_ ?_
        rotate_left
        · intro w'
          go_simp
          with_reducible rfl
        rotate_left
        · simp only [Act.put, List.setIfInBounds_toArray, List.set_cons_zero, List.set_cons_succ, i64_w, i32_w]
          rfl
        refine take_ (i := 1) (N := some 42) (v := ?_) (a' := ?_) (bmS 15 559) rfl rfl (by kernel_rfl) (fun _ _ _ h => h) (Or.inl ⟨by rfl, ?_⟩) hHeld ?_ ?_
        rotate_left
        · rintro w' ⟨s0, s1⟩
          go_simp
          with_reducible rfl
        rotate_left
        · simp only [Act.put, List.setIfInBounds_toArray, List.set_cons_zero, List.set_cons_succ, i64_w, i32_w]
          rfl
        refine take_ (i := 4) (N := some 45) (v := ?_) (a' := ?_) (bmS 15 575) rfl rfl (by kernel_rfl) (fun _ _ _ h => h) (Or.inl ⟨by rfl, ?_⟩) hHeld ?_ ?_
        rotate_left
        · rintro w' ⟨s0, s1⟩
          go_simp
          with_reducible rfl
        rotate_left
        · simp only [Act.put, List.setIfInBounds_toArray, List.set_cons_zero, List.set_cons_succ, i64_w, i32_w]
          rfl
        refine pure_ (i := 6) (N := some 47) (v := ?_) (a' := ?_) (bmS 15 639) rfl rfl (by kernel_rfl) (fun _ _ _ h => h) (Or.inl ⟨by rfl, ?_⟩) ?_ ?_
        rotate_left
        · intro w'
          go_simp
          with_reducible rfl
        rotate_left
        · simp only [Act.put, List.setIfInBounds_toArray, List.set_cons_zero, List.set_cons_succ, i64_w, i32_w]
          rfl
        refine pure_ (i := 7) (N := some 48) (v := ?_) (a' := ?_) (bmS 15 767) rfl rfl (by kernel_rfl) (fun _ _ _ h => h) (Or.inl ⟨by rfl, ?_⟩) ?_ ?_
        rotate_left
        · intro w'
          go_simp
          with_reducible rfl
        rotate_left
        · simp only [Act.put, List.setIfInBounds_toArray, List.set_cons_zero, List.set_cons_succ, i64_w, i32_w]
          rfl
        refine take_ (i := 8) (N := some 49) (v := ?_) (a' := ?_) (bmS 15 1023) rfl rfl (by kernel_rfl) (fun _ _ _ h => h) (Or.inl ⟨by rfl, ?_⟩) hHeld ?_ ?_
        rotate_left
        · rintro w' ⟨s0, s1⟩
          go_simp
          with_reducible rfl
        rotate_left
        · simp only [Act.put, List.setIfInBounds_toArray, List.set_cons_zero, List.set_cons_succ, i64_w, i32_w]
          rfl
        refine one_ (i := 10) (N := some 51) (bmS 15 2047) rfl rfl (by kernel_rfl) (by decide) (fun K hK => ?_)
        refine value_ (w1 := ?_) (v := ?_) (by rfl) rfl ?_ ?_
        rotate_left 2
        · go_simp
          constructor
          · rfl
          · rfl
        refine hK.out _ _ (HA5.out _).2 (fun hHeld => ?_)
        refine norm_ (a' := ?_) ?_ ?_
        rotate_left
        · show Act.put _ (some 51) _ = _
          simp only [Act.put, List.setIfInBounds_toArray, List.set_cons_zero, List.set_cons_succ, i64_w, i32_w]
          rfl
        refine one_ (i := 11) (N := some 52) (bmS 15 4095) rfl rfl (by kernel_rfl) (by decide) (fun K hK => ?_)
        obtain ⟨v2, w5, hrun, g2, cap2, rfl, hg2g, hg2, _, hon5⟩ := app_file (W4 := W4.drew) (g := g) HOX5.out HVB.out hgx (by omega) (by omega) hfl (.string ⟨#[109, 111, 114, 101]⟩) (.int .u8 0) (.string ⟨#[]⟩) (.slice none 0 0) (by intro u hu; simp only [List.mem_cons, List.not_mem_nil, or_false] at hu; rcases hu with rfl | rfl | rfl | rfl <;> rfl)
        refine value_ (w1 := w5) (v := .slice (some ⟨g2, 0, none⟩) (y.files.length + 1) cap2) (by rfl) rfl (exec_app (.tmp 49) (.tmp 51) 23 rfl rfl rfl hrun) ?_
        have HO6 := Lib.hid (own_keep HO5.out fun g' hg' => by
          obtain rfl : g = g' := Option.some.inj hg'
          exact hon5.block g (by omega) hgx)
        have HON6 := Lib.hid (HON5.out.trans hon5 (K := fun j => j ∈ bx ∨ j = g) (fun _ _ h => h) (fun _ _ h => .inl h))
        have hX6 := (hon5.block w.heap.size (blk_lt HX5.out) (fun h => by have := HBL.out _ (HB2.out _ (List.mem_append_left _ h)).1; omega)).trans HX5.out
        have hs6 := hon5.size
        have q3 := (HO6.out.cellAt (k * 4 + 3) (by omega)).trans ((HO5.out.cellAt (k * 4 + 3) (by omega)).symm.trans hst.2)
        have qf := HO6.out.frozenAt (k * 4 + 3)
        refine hK.out _ _ ⟨cell_of hX6 rfl, q3⟩ (fun hHeld => ?_)
        clear hrun hX6 hon5
        refine norm_ (a' := ?_) ?_ ?_
        rotate_left
        · show Act.put _ (some 52) _ = _
          simp only [Act.put, List.setIfInBounds_toArray, List.set_cons_zero, List.set_cons_succ, i64_w, i32_w]
          rfl
        refine pure_ (i := 12) (N := some 53) (v := ?_) (a' := ?_) (bmS 15 8191) rfl rfl (by kernel_rfl) (fun _ _ _ h => h) (Or.inl ⟨by rfl, ?_⟩) ?_ ?_
        rotate_left
        · intro w'
          go_simp
          with_reducible rfl
        rotate_left
        · simp only [Act.put, List.setIfInBounds_toArray, List.set_cons_zero, List.set_cons_succ, i64_w, i32_w]
          rfl
        refine pure_ (i := 13) (N := some 54) (v := ?_) (a' := ?_) (bmS 15 16383) rfl rfl (by kernel_rfl) (fun _ _ _ h => h) (Or.inl ⟨by rfl, ?_⟩) ?_ ?_
        rotate_left
        · intro w'
          go_simp
          with_reducible rfl
        rotate_left
        · simp only [Act.put, List.setIfInBounds_toArray, List.set_cons_zero, List.set_cons_succ, i64_w, i32_w]
          rfl
        refine last_ (i := 14) (N := none) (bmS 15 32767) rfl rfl (by kernel_rfl) (by decide) (fun K hK => ?_)
        refine skip_ (w1 := ?_) (by rfl) rfl ?_ ?_
        rotate_left
        · go_simp
          rfl
        refine hK.out _ _ ?_
        refine done_ (by kernel_rfl) ?_
        have HFIN : Hid (∀ u, SpoilI B xf (some ⟨g, 0, none⟩) c bl w (k + 1) (w5.setCell ⟨g, k * 4 + 3, none⟩ u) ∧ (w5.setCell ⟨g, k * 4 + 3, none⟩ u).heap[w.heap.size]? = some (.cells #[.string xn, .int .u8 xk, .string xd, .slice (some ⟨g, 0, none⟩) xf.length c] 25 (0, 0))) := Lib.hid (fun u => by
          have hoW : Only (fun j => j ∈ bx ∨ j = g) wr (w5.setCell ⟨g, k * 4 + 3, none⟩ u) := only_set HON6.out (g2 := g) (.inl (.inr rfl)) _ _
          refine ⟨spoil_done q1 HON.out (fun j hj => (HBL.out j hj).1) HLR.out hin4 HND.out HB2.out hgt hoW (own_two HO6.out (k * 4 + 3) u) ?_, (hoW.block _ (blk_lt HX.out) (fun h => ?_)).trans HX.out⟩
          · rw [List.drop_set_of_lt (by omega), List.drop_set_of_lt (by omega), List.drop_set_of_lt (by omega)]
          · rcases h with h | h
            · have := HBL.out _ (HB2.out _ (List.mem_append_left _ h)).1
              omega
            · omega)
        go_wp2_with fail
        go_roundw
        case rel => exact ⟨k + 1, by omega, by go_num, Lib.hid (HFIN.out _).1, Lib.hid (HFIN.out _).2⟩
        case measure => simp [RowKit.intOf]; omega
      · refine skip_ (w1 := ?_) (by rfl) rfl ?_ ?_
        rotate_left
        · go_simp
          rfl
        refine hK.out _ _ trivial (fun _ => ?_)
        refine one_ (i := 1) (N := none) #[true, true, true, false] rfl rfl (by kernel_rfl) (by decide) (fun K hK => ?_)
        refine skip_ (w1 := ?_) (by rfl) rfl ?_ ?_
        rotate_left
        · go_simp
          rfl
        refine hK.out _ _ trivial (fun _ => ?_)
        refine one_ (i := 3) (N := some 27) #[true, true, true, true] rfl rfl (by kernel_rfl) (by decide) (fun K hK => ?_)
        refine value_ (w1 := ?_) (v := ?_) (by rfl) rfl ?_ ?_
        rotate_left 2
        · go_simp
          constructor
          · rfl
          · rfl
        refine hK.out _ _ trivial (fun _ => ?_)
        refine done_ (by kernel_rfl) ?_
        have hb4 : Below W3.heap.size W3 (W3.alloc (.cells #[.bool true] 4)).drew := bdrew (below_alloc (Below.refl W3.heap.size W3) _)
        generalize (W3.alloc (.cells #[.bool true] 4)).drew = W4 at *
        have hs4 := hb4.size
        have HX4 := Lib.hid ((hb4.block _ (by have := blk_lt HX1.out; omega)).trans ((HG3.out _ (by omega)).trans HX1.out))
        have HO4 := Lib.hid (own_keep HO3.out fun g' hg' => hb4.block g' (HO3.out.lt g' hg').2)
        have HOX4 := Lib.hid (own_keep HOX.out fun g' hg' => (hb4.block g' (by have := (HOX.out.lt g' hg').2; omega)).trans (HG3.out g' fun e => hgx (e ▸ HVB.out g' hg')))
        have HON4 : Hid (Only (fun j => j ∈ bx ∨ j = g) wr W4) := Lib.hid ((HON1.out.trans HON3.out (K := fun j => j ∈ bx ∨ j = g) (fun _ _ h => .inl h) (fun _ _ h => .inr h)).trans (only_below hb4 (fun _ => False)) (fun _ _ h => h) (fun _ _ h => h.elim))
        have hsz4 := HON4.out.size
        have hBX : B ≤ W4.heap.size := by omega
        have l3 := cell_of (j := 3) HX4.out rfl
        have p3 : W4.cell? ⟨g, k * 4 + 3, none⟩ = some (.slice A1 y.files.length c1) := (HO4.out.cellAt (k * 4 + 3) (by omega)).trans (by rw [List.getElem?_set_ne (by omega), List.getElem?_set_ne (by omega)]; exact HP3.out)
        have f3 := HO4.out.frozenAt (k * 4 + 3)
        obtain ⟨v2, w5, hrun, g2, cap2, rfl, hg2g, hg2, ⟨cs5, hcs5, hbk5⟩, hon5⟩ := app_file (g := g) HOX4.out HVB.out hgx (by omega) hBX hfl (.string ⟨#[]⟩) (.int .u8 0) (.string ⟨#[]⟩) (.slice none 0 0) (by intro u hu; simp only [List.mem_cons, List.not_mem_nil, or_false] at hu; rcases hu with rfl | rfl | rfl | rfl <;> rfl)
        have HRUN := Lib.hid hrun
        have HO5 := Lib.hid (own_keep HO4.out fun g' hg' => by
          obtain rfl : g = g' := Option.some.inj hg'
          exact hon5.block g (by omega) hgx)
        have HON5 := Lib.hid hon5
        have HBK5 := Lib.hid hbk5
        have q3 := (HO5.out.cellAt (k * 4 + 3) (by omega)).trans ((HO4.out.cellAt (k * 4 + 3) (by omega)).symm.trans p3)
        have qf := HO5.out.frozenAt (k * 4 + 3)
        have hs5 := hon5.size
        have hSB : ∀ u, (w5.setCell ⟨g, k * 4 + 3, none⟩ u).heap[g2]? = some (.cells cs5 25 (0, 0)) := fun u => (Below.heap_setCell _ _ _ _ (by simp only; omega)).trans hbk5
        have hS : ∀ u j, j < cs5.size → ∃ x, (w5.setCell ⟨g, k * 4 + 3, none⟩ u).cell? ⟨g2, j, none⟩ = some x := fun u j hj => ⟨cs5[j], cell_of (hSB u) (by simp)⟩
        have hSF : ∀ u j, (w5.setCell ⟨g, k * 4 + 3, none⟩ u).frozen? ⟨g2, j, none⟩ = false := fun u j => unfr (hSB u) j
        have hin4 : inner.drop (k * 4 + 4) = rest := by rw [← List.drop_drop, HIN.out]; rfl
        have HFIN : Hid (∀ u u0 u1 u2 u3, SpoilI B xf (some ⟨g, 0, none⟩) c bl w (k + 1) (((((w5.setCell ⟨g, k * 4 + 3, none⟩ u).setCell ⟨g2, y.files.length * 4, none⟩ u0).setCell ⟨g2, y.files.length * 4 + 1, none⟩ u1).setCell ⟨g2, y.files.length * 4 + 2, none⟩ u2).setCell ⟨g2, y.files.length * 4 + 3, none⟩ u3) ∧ (((((w5.setCell ⟨g, k * 4 + 3, none⟩ u).setCell ⟨g2, y.files.length * 4, none⟩ u0).setCell ⟨g2, y.files.length * 4 + 1, none⟩ u1).setCell ⟨g2, y.files.length * 4 + 2, none⟩ u2).setCell ⟨g2, y.files.length * 4 + 3, none⟩ u3).heap[w.heap.size]? = some (.cells #[.string xn, .int .u8 xk, .string xd, .slice (some ⟨g, 0, none⟩) xf.length c] 25 (0, 0))) := Lib.hid (fun u u0 u1 u2 u3 => by
          have hoW : Only (fun j => j ∈ bx ∨ j = g) wr (((((w5.setCell ⟨g, k * 4 + 3, none⟩ u).setCell ⟨g2, y.files.length * 4, none⟩ u0).setCell ⟨g2, y.files.length * 4 + 1, none⟩ u1).setCell ⟨g2, y.files.length * 4 + 2, none⟩ u2).setCell ⟨g2, y.files.length * 4 + 3, none⟩ u3) := (only_set (only_set (only_set (only_set (only_set (HON4.out.trans HON5.out (fun _ _ h => h) (fun _ _ h => .inl h)) (g2 := g) (.inl (.inr rfl)) _ _) (hg2.imp .inl fun h => by omega) _ _) (hg2.imp .inl fun h => by omega) _ _) (hg2.imp .inl fun h => by omega) _ _) (hg2.imp .inl fun h => by omega) _ _)
          refine ⟨spoil_done q1 HON.out (fun j hj => (HBL.out j hj).1) HLR.out hin4 HND.out HB2.out hgt hoW (own_put2 (own_put2 (own_put2 (own_put2 (own_two HO5.out (k * 4 + 3) u) hg2g _ _) hg2g _ _) hg2g _ _) hg2g _ _) ?_, (hoW.block _ (blk_lt HX.out) (fun h => ?_)).trans HX.out⟩
          · rw [List.drop_set_of_lt (by omega), List.drop_set_of_lt (by omega), List.drop_set_of_lt (by omega)]
          · rcases h with h | h
            · have := HBL.out _ (HB2.out _ (List.mem_append_left _ h)).1
              omega
            · omega)
        obtain ⟨z0, hz0⟩ := hS (.slice (some ⟨g2, 0, none⟩) (y.files.length + 1) cap2) (y.files.length * 4) (by omega)
        obtain ⟨z1, hz1⟩ := hS (.slice (some ⟨g2, 0, none⟩) (y.files.length + 1) cap2) (y.files.length * 4 + 1) (by omega)
        obtain ⟨z2, hz2⟩ := hS (.slice (some ⟨g2, 0, none⟩) (y.files.length + 1) cap2) (y.files.length * 4 + 2) (by omega)
        obtain ⟨z3, hz3⟩ := hS (.slice (some ⟨g2, 0, none⟩) (y.files.length + 1) cap2) (y.files.length * 4 + 3) (by omega)
        clear hrun hon5 hbk5 hSB hS hcs5 HOX4
        go_wp2_with (at_builtin; refine wpList_of_run rfl (.tmp 33) (.tmp 36) 23 rfl rfl rfl HRUN.out ?_)
        go_roundw
        case rel => exact ⟨k + 1, by omega, by go_num, Lib.hid (HFIN.out _ _ _ _ _).1, Lib.hid (HFIN.out _ _ _ _ _).2⟩
        case measure => simp [RowKit.intOf]; omega
    · obtain rfl : k = xf.length := by omega
      have hq : ¬ ((xf.length : Int) < (xf.length : Int)) := by omega
      go_wp2_with fail
      obtain ⟨h1, inner, _, h2, _⟩ := HS.out
      exact bodyPost_end (results_none rfl _ _ _) rfl ⟨rfl, h1, inner, h2⟩
end Go.Proofs.YthlcjjhfkldmhaaDoor.G
