/- (*vfs.Fs).Trace. Printed by wip/tools/gen_vtrace.py. -/
import Derived.Test.YthlcjjhfkldmhaaDoorVIn
import Derived.Test.YthlcjjhfkldmhaaDoorVFaultP
import Derived.Test.YthlcjjhfkldmhaaDoorVHd
set_option linter.unusedVariables false
set_option linter.unusedSimpArgs false
namespace Go.Proofs.YthlcjjhfkldmhaaDoor.G
open Go.RowKit Go.Lib Go.Proofs.YthlcjjhfkldmhaaDoorW.PrintWords Go.Proofs.YthlcjjhfkldmhaaDoorW.PrintLast
set_option linter.unusedVariables false
set_option linter.unusedSimpArgs false

/-- Elements of a kind, or cells as they are. -/
def orRaw {α : Type} (d : Kd α) : Kd (α ⊕ List Value) where
  sz := d.sz
  E := d.E
  K := fun w x cs => match x with | .inl y => d.K w y cs | .inr c => cs = c ∧ cs.length = d.sz ∧ ∀ u ∈ cs, u.oneCell' = true
  M := fun w base ok x cs => match x with | .inl y => d.M w base ok y cs | .inr c => cs = c ∧ cs.length = d.sz ∧ ∀ u ∈ cs, u.oneCell' = true
  K_len := by
    intro w x cs h
    cases x with
    | inl y => exact d.K_len h
    | inr c => exact h.2.1
  K_one := by
    intro w x cs h
    cases x with
    | inl y => exact d.K_one h
    | inr c => exact h.2.2
  K_below := by
    intro w w1 x cs hb h
    cases x with
    | inl y => exact d.K_below hb h
    | inr c => exact h
  K_of_M := by
    intro w base ok x cs h
    cases x with
    | inl y => exact d.K_of_M h
    | inr c => exact h
  M_mono := by
    intro w base ok ok' x cs hk h
    cases x with
    | inl y => exact d.M_mono hk h
    | inr c => exact h
  M_bound := by
    intro w base ok x cs h
    cases x with
    | inl y => exact d.M_bound h
    | inr c => exact h
  M_move := by
    intro w w1 base ok x cs hm h
    cases x with
    | inl y => exact d.M_move hm h
    | inr c => exact h
  M_lower := by
    intro w base base' ok x cs hb h
    cases x with
    | inl y => exact d.M_lower hb h
    | inr c => exact h
theorem reps_map {α β : Type} {R : α → List Value → Prop} {R' : β → List Value → Prop} {sz : Nat} {f : α → β} {xs : List α} {inner : List Value} (h : Reps R sz xs inner) (hf : ∀ x cs, R x cs → R' (f x) cs) : Reps R' sz (xs.map f) inner := by
  refine ⟨by rw [List.length_map]; exact h.1, fun j p hj => ?_⟩
  rw [List.getElem?_map] at hj
  obtain ⟨x, hx, rfl⟩ := Option.map_eq_some_iff.1 hj
  exact hf _ _ (h.2 j x hx)
theorem reps_unmap {α β : Type} {R : α → List Value → Prop} {R' : β → List Value → Prop} {sz : Nat} {f : α → β} {xs : List α} {inner : List Value} (h : Reps R' sz (xs.map f) inner) (hf : ∀ x cs, R' (f x) cs → R x cs) : Reps R sz xs inner := by
  refine ⟨by have := h.1; rwa [List.length_map] at this, fun j x hj => ?_⟩
  exact hf _ _ (h.2 j (f x) (by rw [List.getElem?_map, hj]; rfl))
theorem R_orRaw {α : Type} {d : Kd α} {e : Nat} {w : World} {base : Nat} {ok : Nat → Prop} {v : Value} {rows : List (List Value)} (h : (Kd.raw d.sz).R e w base ok v rows) : (orRaw d).R e w base ok v (rows.map Sum.inr) := by
  obtain ⟨h0, inner, ho, hr⟩ := h
  exact ⟨h0, inner, by rw [List.length_map]; exact ho, reps_map hr fun x cs hx => hx⟩
theorem R_unRaw {α : Type} {d : Kd α} {e : Nat} {w : World} {base : Nat} {ok : Nat → Prop} {v : Value} {xs : List α} (h : (orRaw d).R e w base ok v (xs.map Sum.inl)) : d.R e w base ok v xs := by
  obtain ⟨h0, inner, ho, hr⟩ := h
  exact ⟨h0, inner, by rw [List.length_map] at ho; exact ho, reps_unmap hr fun x cs hx => hx⟩
set_option maxHeartbeats 1000000 in
/-- slices.Clone of calls: their paths are shared. -/
theorem cloneC_calls (A : Option Addr) (c : Nat) (l : List Call) (w : World) (hr : Kd.F CallK w (fun k => k < w.heap.size) A l.length l) (hc : l.length ≤ c) (hl : l.length ≤ 1000000) :
    Calls Tryd.prog 43 #[.slice A l.length c] w fun e w' => ∃ v, e = .returned v ∧ Kd.N CallK 59 w' w.heap.size (fun _ => True) v l ∧ Below w.heap.size w w' := by
  have hq := fun W => Lib.run_eql_slice_nil (P := Tryd.prog) W 57 59 A l.length c 0 0 Tryd.underlying57
  have HR := Lib.hid hr
  clear hr
  cases A with
  | none =>
    go_enter Tryd.func43, Tryd.ntmps43
    go_wp2
    go_ret
    refine ⟨_, rfl, ?_, Below.refl _ _⟩
    have : l = [] := by
      rcases Nat.eq_zero_or_pos l.length with h | h
      · exact List.length_eq_zero_iff.1 h
      · obtain ⟨ad, h', _⟩ := (Kd.F_now HR.out).2.2 h; cases h'
    subst this
    exact Kd.N_nil _ _ _ _ _
  | some ad =>
    go_enter Tryd.func43, Tryd.ntmps43
    go_wp2_with (at_builtin; refine Kd.N_append_rows CallK (w0 := w) w.heap.size rfl (.tmp 5) (.tmp 6) 57 59 (.agg #[.int .u8 0, .slice none 0 0, .slice none 0 0, .int .i64 0]) 64 rfl Tryd.underlying57 info_call rfl (by decide) (by decide) _ [] l (some ad) l.length c (fun _ => True) (fun k => k < w.heap.size) rfl rfl ?aO ?aR ?aK ?aF ?aB ?aS ?aL ?_; (case aO => exact Kd.R_N (R_lit0 _ _ _ _ _ (Nat.le_refl _) (fun _ _ => trivial))); (case aR => exact Kd.F_below HR.out ((Below.refl _ _).alloc (Nat.le_refl _) _)); (case aK => exact fun k hk => ⟨trivial, fun e => absurd (Option.some.inj (e.trans (show (Value.slice (some ⟨w.heap.size, 0, none⟩) 0 0).ownBlock = some w.heap.size from rfl))) (Nat.ne_of_lt hk)⟩); (case aF => exact fun _ _ => trivial); (case aB => exact (Below.refl _ _).alloc (Nat.le_refl _) _); (case aS => simp); (case aL => simp; omega); intro v1 w1 ho hb hg hat)
    go_ret
    exact ⟨_, rfl, ho, hb⟩
/-- Behind k rounds: the first k elements have paths of their own. -/
def TrI (w : World) (l : List Call) (v : Value) (rows : List (List Value)) (k : Nat) (wr : World) : Prop :=
  (orRaw CallK).R 59 wr w.heap.size (fun _ => True) v ((l.take k).map Sum.inl ++ (rows.drop k).map Sum.inr) ∧ (∀ (j : Nat) (x : Call) (c : List Value), l[j]? = some x → rows[j]? = some c → Kd.FK CallK wr (fun k => some k ≠ v.ownBlock) x c) ∧ Below w.heap.size w wr
theorem tr_set {l : List Call} {rows : List (List Value)} {k : Nat} (hk : k < l.length) (hr : rows.length = l.length) : ((l.take k).map Sum.inl ++ (rows.drop k).map Sum.inr : List (Call ⊕ List Value)).set k (Sum.inl l[k]) = (l.take (k + 1)).map Sum.inl ++ (rows.drop (k + 1)).map Sum.inr := by
  have h1 : (l.take k).length = k := by rw [List.length_take]; omega
  rw [List.set_append_right _ _ (by rw [List.length_map, h1]; exact Nat.le_refl _), List.length_map, h1, Nat.sub_self, List.drop_eq_getElem_cons (show k < rows.length by omega), List.map_cons, List.set_cons_zero, List.take_succ_eq_append_getElem hk, List.map_append, List.append_assoc]
  rfl
theorem tr_get {l : List Call} {rows : List (List Value)} {k : Nat} (hk : k < l.length) (hr : rows.length = l.length) (z : Call ⊕ List Value) : ((l.take k).map Sum.inl ++ (rows.drop k).map Sum.inr : List (Call ⊕ List Value)).getD k z = Sum.inr (rows[k]'(by omega)) := by
  have h1 : (l.take k).length = k := by rw [List.length_take]; omega
  rw [List.getD_eq_getElem?_getD, List.getElem?_append_right (by rw [List.length_map, h1]; exact Nat.le_refl _), List.length_map, h1, Nat.sub_self, List.drop_eq_getElem_cons (show k < rows.length by omega)]
  rfl
theorem cell_two {wr W : World} {ad : Addr} {k : Nat} {cells : Array Value} {v u : Value} {t : TypeId} (h : wr.heap[(ad.add (k * 4)).block]? = some (.cells cells t (0, 0))) (hb : Below wr.heap.size wr W) (hu : W.cell? ⟨(ad.add (k * 4)).block, (ad.add (k * 4)).off + 2, none⟩ = some u) : (W.setCell ⟨(ad.add (k * 4)).block, (ad.add (k * 4)).off + 1, none⟩ v).cell? ⟨(ad.add (k * 4)).block, (ad.add (k * 4)).off + 2, none⟩ = some u := by
  have h1 := (hb.block _ (blk_lt h)).trans h
  have h2 := blk_put h1 ((ad.add (k * 4)).off + 1) v rfl
  rw [blk_cell h1] at hu
  rw [blk_cell h2, Array.getElem?_setIfInBounds_ne (by omega)]
  exact hu
theorem frozen_two {wr W : World} {ad : Addr} {k j : Nat} {cells : Array Value} {v : Value} {t : TypeId} (h : wr.heap[(ad.add (k * 4)).block]? = some (.cells cells t (0, 0))) (hb : Below wr.heap.size wr W) : (W.setCell ⟨(ad.add (k * 4)).block, (ad.add (k * 4)).off + 1, none⟩ v).frozen? ⟨(ad.add (k * 4)).block, (ad.add (k * 4)).off + j, none⟩ = false :=
  unfr (blk_put ((hb.block _ (blk_lt h)).trans h) ((ad.add (k * 4)).off + 1) v rfl) _
set_option maxHeartbeats 8000000 in
set_option maxRecDepth 100000 in
theorem trace_api (w : World) (g : Nat) (O : Nat → Prop) (tb : Option Nat) (f : FsV) (hfs : FsAt w g O tb f) (htl : f.trace.length ≤ 1000000) (hpl : ∀ x ∈ f.trace, x.path.length ≤ 8796093022208 ∧ x.dest.length ≤ 8796093022208) :
    Calls Tryd.prog 25 #[.pointer (some ⟨g, 0, none⟩)] w fun e w' => ∃ v, e = .returned v ∧ CallK.R 59 w' w.heap.size (fun _ => True) v f.trace ∧ Below w.heap.size w w' := by
  obtain ⟨A, c, v, m, lo, hi, hbox, hle, hiv, hsep, htr, htb, hfl, hOm, hOlt⟩ := hfs
  unfold fsCells at hbox
  obtain ⟨AT, ct, rfl⟩ := Kd.R_slice htr
  have HB := Lib.hid hbox
  have hct := (Kd.R_reads' htr).2.1
  have HTR := Lib.hid (Kd.F_mono (Kd.R_F htr) hOlt)
  have HPL := Lib.hid hpl
  generalize f.trace = l at *
  clear hbox hiv hsep htr htb hfl hOm hOlt hpl
  go_enter Tryd.func25, Tryd.ntmps25
  have l1 := cell_of (j := 4) HB.out rfl
  go_wp2_with fail
  refine (cloneC_calls AT ct l w HTR.out hct htl).mono ?_
  rintro e w1 ⟨v, rfl, hN, hq1⟩
  obtain ⟨hn0, rows, hrl, hR, hFK⟩ := hN
  have HI0 : Hid (TrI w l v rows 0 w1) := Lib.hid ⟨Kd.R_mono (by have h := R_orRaw (d := CallK) (show (Kd.raw CallK.sz).R _ _ _ _ _ _ from hR); simpa using h) (fun _ _ => trivial), fun j x c hx hc => Kd.FK_mono (hFK j x c hx hc) fun k hk => hk.2, hq1⟩
  obtain ⟨B, cB, rfl⟩ := Kd.R_slice hR
  have hcB := (Kd.R_reads' hR).2.1
  rw [hrl] at HI0 hcB ⊢
  clear l1 hn0 hR hFK hq1
  go_wp2_with fail
  go_loopw [14] (fun i wr => ∃ k : Nat, k ≤ l.length ∧ i = .int .i64 k ∧ Hid (TrI w l (.slice B l.length cB) rows k wr)) (fun i _ => l.length - (RowKit.intOf i).toNat)
  case atStart => exact ⟨0, by omega, rfl, HI0⟩
  case round =>
    obtain ⟨k, hk, rfl, HI⟩ := hrel
    clear HI0
    by_cases q1 : k < l.length
    · obtain ⟨hR, hF, hb⟩ := HI.out
      have hlen : ((l.take k).map Sum.inl ++ (rows.drop k).map Sum.inr : List (Call ⊕ List Value)).length = l.length := by
        simp only [List.length_append, List.length_map, List.length_take, List.length_drop]
        omega
      obtain ⟨b, cap, hv, hbb, hbl, cells, hcells⟩ := Kd.R_form hR (by rw [hlen]; omega)
      rw [hlen] at hv
      injection hv with hB _ hcap
      subst hcap
      obtain ⟨ad, had⟩ : ∃ ad : Addr, ad = ⟨b, 0, none⟩ := ⟨_, rfl⟩
      rw [← had] at hB
      subst hB
      obtain ⟨cs, hcl, hM, hcc, hfr⟩ := Kd.R_elem (by rw [had] at hR; exact hR) (Sum.inr []) (k : Int) (by omega) (by omega)
      rw [Int.toNat_natCast, tr_get q1 hrl] at hM
      rw [Int.toNat_natCast] at hcc hfr
      have hcr : cs = rows[k]'(by omega) := hM.1
      have hfk := hF k _ _ (List.getElem?_eq_getElem q1) (List.getElem?_eq_getElem (show k < rows.length by omega))
      rw [← hcr] at hfk
      clear hcr
      have hx12 := HPL.out _ (List.getElem_mem q1)
      obtain ⟨x, hxx⟩ : ∃ x, l[k] = x := ⟨_, rfl⟩
      have HXX := Lib.hid hxx
      rw [hxx] at hfk hx12
      clear hxx
      obtain ⟨hx1, hx2⟩ := hx12
      obtain ⟨A1, c1, A2, c2, hcs, hc1, hC1, hc2, hC2⟩ := call_open (Kd.FK_now hfk)
      have HC1 := Lib.hid hC1
      have HC2 := Lib.hid hC2
      have HCS := Lib.hid hcs
      have HR := Lib.hid hR
      have HF := Lib.hid hF
      have HBW := Lib.hid hb
      have HTY := Lib.hid (show wr.heap[(ad.add (k * 4)).block]? = some (.cells cells 59 (0, 0)) by rw [had, add_at4]; exact hcells)
      have HAD := Lib.hid had
      have HCC := Lib.hid hcc
      have HCL := Lib.hid hcl
      have HS0 : Hid (∀ W, Below wr.heap.size wr W → (fun w' => w'.cell? ⟨(ad.add (k * 4)).block, (ad.add (k * 4)).off + 1, none⟩ = some (.slice A1 x.path.length c1) ∧ w'.cell? ⟨(ad.add (k * 4)).block, (ad.add (k * 4)).off + 2, none⟩ = some (.slice A2 x.dest.length c2)) W) := Lib.hid (by
        intro W hW
        have h1 := hcc 1 (.slice A1 x.path.length c1) (by rw [hcs]; rfl)
        have h2 := hcc 2 (.slice A2 x.dest.length c2) (by rw [hcs]; rfl)
        rw [had, add_at4]
        exact ⟨(hW.cell (World.block_lt_of_cell? wr _ h1)).trans h1, (hW.cell (World.block_lt_of_cell? wr _ h2)).trans h2⟩)
      have HFZ : Hid (∀ W, Below wr.heap.size wr W → ∀ j, W.frozen? ⟨(ad.add (k * 4)).block, (ad.add (k * 4)).off + j, none⟩ = false) := Lib.hid fun W hW j => unfr ((hW.block _ (blk_lt HTY.out)).trans HTY.out) _
      have g1 : (k : Int) < (l.length : Int) := by omega
      have hbk := blk_lt HTY.out
      clear hC1 hC2 hR hF hb hcells hM hcc hfr hfk hcs hcl had
      go_wp2_with fail
      refine start_ (n := 22) (S := fun w' => w'.cell? ⟨(ad.add (k * 4)).block, (ad.add (k * 4)).off + 1, none⟩ = some (.slice A1 x.path.length c1) ∧ w'.cell? ⟨(ad.add (k * 4)).block, (ad.add (k * 4)).off + 2, none⟩ = some (.slice A2 x.dest.length c2)) (ds := [18, 21]) (bq 22 0) (by kernel_rfl) rfl rfl (HS0.out _ (bdrew (Below.refl _ _))) (fun hHeld => ?_)
      have hqd := bdrew (Below.refl wr.heap.size wr)
      have HS : Hid (∀ W, Below wr.drew.heap.size wr.drew W → (fun w' => w'.cell? ⟨(ad.add (k * 4)).block, (ad.add (k * 4)).off + 1, none⟩ = some (.slice A1 x.path.length c1) ∧ w'.cell? ⟨(ad.add (k * 4)).block, (ad.add (k * 4)).off + 2, none⟩ = some (.slice A2 x.dest.length c2)) W) := Lib.hid fun W h => HS0.out W (hqd.trans (h.mono hqd.size))
      have hC1 := Lib.hid (Kd.C_below HC1.out hqd)
      have hC2 := Lib.hid (Kd.C_below HC2.out hqd)
      have HB5 := Lib.hid (HBW.out.trans (hqd.mono HBW.out.size))
      have HQD := Lib.hid hqd
      have hsd := hqd.size
      clear hqd
      generalize wr.drew = WD at *
      refine pure_ (i := 0) (N := some 17) (v := ?_) (a' := ?_) (bq 22 1) rfl rfl (by kernel_rfl) (fun _ _ _ h => h) (Or.inl ⟨by rfl, ?_⟩) ?_ ?_
      rotate_left
      · intro w'
        go_simp
        with_reducible rfl
      rotate_left
      · simp only [Act.put, List.setIfInBounds_toArray, List.set_cons_zero, List.set_cons_succ, i64_w, i32_w]
        rfl
      refine pure_ (i := 1) (N := some 18) (v := ?_) (a' := ?_) (bq 22 3) rfl rfl (by kernel_rfl) (fun _ _ _ h => h) (Or.inl ⟨by rfl, ?_⟩) ?_ ?_
      rotate_left
      · intro w'
        go_simp
        with_reducible rfl
      rotate_left
      · simp only [Act.put, List.setIfInBounds_toArray, List.set_cons_zero, List.set_cons_succ, i64_w, i32_w]
        rfl
      refine pure_ (i := 2) (N := some 19) (v := ?_) (a' := ?_) (bq 22 7) rfl rfl (by kernel_rfl) (fun _ _ _ h => h) (Or.inl ⟨by rfl, ?_⟩) ?_ ?_
      rotate_left
      · intro w'
        go_simp
        with_reducible rfl
      rotate_left
      · simp only [Act.put, List.setIfInBounds_toArray, List.set_cons_zero, List.set_cons_succ, i64_w, i32_w]
        rfl
      refine pure_ (i := 3) (N := some 20) (v := ?_) (a' := ?_) (bq 22 15) rfl rfl (by kernel_rfl) (fun _ _ _ h => h) (Or.inl ⟨by rfl, ?_⟩) ?_ ?_
      rotate_left
      · intro w'
        go_simp
        with_reducible rfl
      rotate_left
      · simp only [Act.put, List.setIfInBounds_toArray, List.set_cons_zero, List.set_cons_succ, i64_w, i32_w]
        rfl
      refine pure_ (i := 4) (N := some 21) (v := ?_) (a' := ?_) (bq 22 31) rfl rfl (by kernel_rfl) (fun _ _ _ h => h) (Or.inl ⟨by rfl, ?_⟩) ?_ ?_
      rotate_left
      · intro w'
        go_simp
        with_reducible rfl
      rotate_left
      · simp only [Act.put, List.setIfInBounds_toArray, List.set_cons_zero, List.set_cons_succ, i64_w, i32_w]
        rfl
      refine pure_ (i := 5) (N := some 22) (v := ?_) (a' := ?_) (bq 22 63) rfl rfl (by kernel_rfl) (fun _ _ _ h => h) (Or.inl ⟨by rfl, ?_⟩) ?_ ?_
      rotate_left
      · intro w'
        go_simp
        with_reducible rfl
      rotate_left
      · simp only [Act.put, List.setIfInBounds_toArray, List.set_cons_zero, List.set_cons_succ, i64_w, i32_w]
        rfl
      refine pure_ (i := 6) (N := some 23) (v := ?_) (a' := ?_) (bq 22 127) rfl rfl (by kernel_rfl) (fun _ _ _ h => h) (Or.inl ⟨by rfl, ?_⟩) ?_ ?_
      rotate_left
      · intro w'
        go_simp
        with_reducible rfl
      rotate_left
      · simp only [Act.put, List.setIfInBounds_toArray, List.set_cons_zero, List.set_cons_succ, i64_w, i32_w]
        rfl
      refine pure_ (i := 7) (N := some 24) (v := ?_) (a' := ?_) (bq 22 255) rfl rfl (by kernel_rfl) (fun _ _ _ h => h) (Or.inl ⟨by rfl, ?_⟩) ?_ ?_
      rotate_left
      · intro w'
        go_simp
        with_reducible rfl
      rotate_left
      · simp only [Act.put, List.setIfInBounds_toArray, List.set_cons_zero, List.set_cons_succ, i64_w, i32_w]
        rfl
      refine pure_ (i := 10) (N := some 27) (v := ?_) (a' := ?_) (bq 22 1279) rfl rfl (by kernel_rfl) (fun _ _ _ h => h) (Or.inl ⟨by rfl, ?_⟩) ?_ ?_
      rotate_left
      · intro w'
        go_simp
        with_reducible rfl
      rotate_left
      · simp only [Act.put, List.setIfInBounds_toArray, List.set_cons_zero, List.set_cons_succ, i64_w, i32_w]
        rfl
      refine pure_ (i := 11) (N := some 28) (v := ?_) (a' := ?_) (bq 22 3327) rfl rfl (by kernel_rfl) (fun _ _ _ h => h) (Or.inl ⟨by rfl, ?_⟩) ?_ ?_
      rotate_left
      · intro w'
        go_simp
        with_reducible rfl
      rotate_left
      · simp only [Act.put, List.setIfInBounds_toArray, List.set_cons_zero, List.set_cons_succ, i64_w, i32_w]
        rfl
      refine pure_ (i := 12) (N := some 29) (v := ?_) (a' := ?_) (bq 22 7423) rfl rfl (by kernel_rfl) (fun _ _ _ h => h) (Or.inl ⟨by rfl, ?_⟩) ?_ ?_
      rotate_left
      · intro w'
        go_simp
        with_reducible rfl
      rotate_left
      · simp only [Act.put, List.setIfInBounds_toArray, List.set_cons_zero, List.set_cons_succ, i64_w, i32_w]
        rfl
      refine pure_ (i := 13) (N := some 30) (v := ?_) (a' := ?_) (bq 22 15615) rfl rfl (by kernel_rfl) (fun _ _ _ h => h) (Or.inl ⟨by rfl, ?_⟩) ?_ ?_
      rotate_left
      · intro w'
        go_simp
        with_reducible rfl
      rotate_left
      · simp only [Act.put, List.setIfInBounds_toArray, List.set_cons_zero, List.set_cons_succ, i64_w, i32_w]
        rfl
      refine take_ (i := 8) (N := some 25) (v := ?_) (a' := ?_) (bq 22 15871) rfl rfl (by kernel_rfl) (fun _ _ _ h => h) (Or.inl ⟨by rfl, ?_⟩) hHeld ?_ ?_
      rotate_left
      · rintro w' ⟨s0, s1⟩
        have q1 := s0
        go_simp
        with_reducible rfl
      rotate_left
      · simp only [Act.put, List.setIfInBounds_toArray, List.set_cons_zero, List.set_cons_succ, i64_w, i32_w]
        rfl
      refine take_ (i := 14) (N := some 31) (v := ?_) (a' := ?_) (bq 22 32255) rfl rfl (by kernel_rfl) (fun _ _ _ h => h) (Or.inl ⟨by rfl, ?_⟩) hHeld ?_ ?_
      rotate_left
      · rintro w' ⟨s0, s1⟩
        have q2 := s1
        go_simp
        with_reducible rfl
      rotate_left
      · simp only [Act.put, List.setIfInBounds_toArray, List.set_cons_zero, List.set_cons_succ, i64_w, i32_w]
        rfl
      refine one_ (i := 9) (N := some 26) (bq 22 32767) rfl rfl (by kernel_rfl) (by decide) (fun K hK => ?_)
      refine goes_ Tryd.func44 (by kernel_rfl) rfl #[.slice A1 x.path.length c1] (by rfl) rfl rfl (by simp only [List.map_toArray, List.map_cons, List.map_nil]; rfl) ?_
      refine (P.clone_calls A1 c1 x.path WD hC1.out hc1 hx1).mono ?_
      rintro e w5 ⟨v1, rfl, hR1, hq5⟩
      obtain ⟨D1, e1, rfl⟩ := Kd.R_slice hR1
      refine ⟨_, rfl, ?_⟩
      have HR1 := Lib.hid hR1
      have hs5 := hq5.size
      refine hK.out _ _ (HS.out _ hq5) (fun hHeld => ?_)
      refine norm_ (a' := ?_) ?_ ?_
      rotate_left
      · show Act.put _ (some 26) _ = _
        simp only [Act.put, List.setIfInBounds_toArray, List.set_cons_zero, List.set_cons_succ, i64_w, i32_w]
        rfl
      refine one_ (i := 15) (N := some 32) (bq 22 65535) rfl rfl (by kernel_rfl) (by decide) (fun K hK => ?_)
      refine goes_ Tryd.func44 (by kernel_rfl) rfl #[.slice A2 x.dest.length c2] (by rfl) rfl rfl (by simp only [List.map_toArray, List.map_cons, List.map_nil]; rfl) ?_
      refine (P.clone_calls A2 c2 x.dest w5 (Kd.C_below hC2.out hq5) hc2 hx2).mono ?_
      rintro e w6 ⟨v2, rfl, hR2, hq6⟩
      obtain ⟨D2, e2, rfl⟩ := Kd.R_slice hR2
      refine ⟨_, rfl, ?_⟩
      have HR2 := Lib.hid hR2
      have hs6 := hq6.size
      have hq56 := hq5.trans (hq6.mono hs5)
      have HH := Lib.hid (HS.out _ hq56)
      refine hK.out _ _ (HS.out _ hq56) (fun hHeld => ?_)
      refine norm_ (a' := ?_) ?_ ?_
      rotate_left
      · show Act.put _ (some 32) _ = _
        simp only [Act.put, List.setIfInBounds_toArray, List.set_cons_zero, List.set_cons_succ, i64_w, i32_w]
        rfl
      refine pure_ (i := 16) (N := some 33) (v := ?_) (a' := ?_) (bq 22 131071) rfl rfl (by kernel_rfl) (fun _ _ _ h => h) (Or.inl ⟨by rfl, ?_⟩) ?_ ?_
      rotate_left
      · intro w'
        go_simp
        with_reducible rfl
      rotate_left
      · simp only [Act.put, List.setIfInBounds_toArray, List.set_cons_zero, List.set_cons_succ, i64_w, i32_w]
        rfl
      refine pure_ (i := 17) (N := some 34) (v := ?_) (a' := ?_) (bq 22 262143) rfl rfl (by kernel_rfl) (fun _ _ _ h => h) (Or.inl ⟨by rfl, ?_⟩) ?_ ?_
      rotate_left
      · intro w'
        go_simp
        with_reducible rfl
      rotate_left
      · simp only [Act.put, List.setIfInBounds_toArray, List.set_cons_zero, List.set_cons_succ, i64_w, i32_w]
        rfl
      refine last_ (i := 18) (N := none) (bq 22 524287) rfl rfl (by kernel_rfl) (by decide) (fun K hK => ?_)
      have hq56w := HQD.out.trans (hq56.mono hsd)
      have HT2 := Lib.hid (cell_two (v := .slice D1 x.path.length e1) HTY.out hq56w HH.out.2)
      have HFZ2 := Lib.hid (frozen_two (v := .slice D1 x.path.length e1) (j := 2) HTY.out hq56w)
      have z1 := HH.out.1
      have u1 := HFZ.out _ hq56w 1
      refine skip_ (w1 := ?_) (by rfl) rfl ?_ ?_
      rotate_left
      · go_simp
        rfl
      refine hK.out _ _ ?_
      refine pure_ (i := 19) (N := some 35) (v := ?_) (a' := ?_) (bq 22 1048575) rfl rfl (by kernel_rfl) (fun _ _ _ h => h) (Or.inl ⟨by rfl, ?_⟩) ?_ ?_
      rotate_left
      · intro w'
        go_simp
        with_reducible rfl
      rotate_left
      · simp only [Act.put, List.setIfInBounds_toArray, List.set_cons_zero, List.set_cons_succ, i64_w, i32_w]
        rfl
      refine pure_ (i := 20) (N := some 36) (v := ?_) (a' := ?_) (bq 22 2097151) rfl rfl (by kernel_rfl) (fun _ _ _ h => h) (Or.inl ⟨by rfl, ?_⟩) ?_ ?_
      rotate_left
      · intro w'
        go_simp
        with_reducible rfl
      rotate_left
      · simp only [Act.put, List.setIfInBounds_toArray, List.set_cons_zero, List.set_cons_succ, i64_w, i32_w]
        rfl
      refine last_ (i := 21) (N := none) (bq 22 4194303) rfl rfl (by kernel_rfl) (by decide) (fun K hK => ?_)
      have z2 := HT2.out
      have u2 := HFZ2.out
      refine skip_ (w1 := ?_) (by rfl) rfl ?_ ?_
      rotate_left
      · go_simp
        rfl
      refine hK.out _ _ ?_
      refine done_ (by kernel_rfl) ?_
      have HN : Hid (TrI w l (.slice (some ad) l.length cB) rows (k + 1) ((w6.setCell ⟨(ad.add (k * 4)).block, (ad.add (k * 4)).off + 1, none⟩ (.slice D1 x.path.length e1)).setCell ⟨(ad.add (k * 4)).block, (ad.add (k * 4)).off + 2, none⟩ (.slice D2 x.dest.length e2))) := Lib.hid (by
        have hh : ad.add (k * 4) = ⟨b, k * 4, none⟩ := by rw [HAD.out, add_at4]
        rw [hh]
        have hq6w := HQD.out.trans (hq56.mono hsd)
        have hR6 := Kd.R_below HR.out hq6w
        rw [HAD.out] at hR6
        have hcc6 : ∀ j u, cs[j]? = some u → w6.cell? ⟨b, (k : Int).toNat * (orRaw CallK).sz + j, none⟩ = some u := fun j u hu => by
          have h1 := HCC.out j u hu
          rw [Int.toNat_natCast]
          exact (hq6w.cell (World.block_lt_of_cell? wr _ h1)).trans h1
        have hM : (orRaw CallK).M w6 w.heap.size (fun j => WD.heap.size ≤ j) (Sum.inl x) (cs.take 1 ++ [.slice D1 x.path.length e1, .slice D2 x.dest.length e2] ++ cs.drop (1 + 2)) := by
          rw [HCS.out]
          have hw := HB5.out.size
          exact call_mkM w6 w.heap.size _ x (Kd.R_lower (Kd.R_mono (Kd.R_bound (Kd.R_below HR1.out hq6)) fun j hj => hj.2.1) hw) (Kd.R_lower (Kd.R_mono (Kd.R_bound HR2.out) fun j hj => by have := hj.2.1; omega) (by omega))
        obtain ⟨hrow, hg⟩ := Kd.R_seg hR6 (k : Int) (by omega) (by omega) (c := cs) (seg := [.slice D1 x.path.length e1, .slice D2 x.dest.length e2]) (j := 1) HCL.out hcc6 (show 1 + 2 ≤ 4 by decide) hM (fun j hj => ⟨trivial, by omega⟩)
        rw [Int.toNat_natCast, ← HXX.out, tr_set q1 hrl] at hrow
        refine ⟨by rw [HAD.out]; rw [← HXX.out]; exact hrow, fun j y c hy hc => Kd.FK_step (HF.out j y c hy hc) fun i hi hl => ?_, ?_⟩
        · have hib : i ≠ b := fun e => hi (by rw [e, HAD.out]; rfl)
          rw [Below.heap_setCell _ _ _ _ hib, Below.heap_setCell _ _ _ _ hib]
          exact hq6w.block i hl
        · exact ((HB5.out.trans (hq56.mono HB5.out.size)).setCell (p := ⟨b, k * 4 + 1, none⟩) hbb _).setCell (p := ⟨b, k * 4 + 2, none⟩) hbb _)
      clear hHeld hK z1 u1 z2 u2
      go_wp2_with fail
      go_roundw
      case rel => exact ⟨k + 1, by omega, by go_num, HN⟩
      case measure => simp [RowKit.intOf]; omega
    · obtain rfl : k = l.length := by omega
      obtain ⟨hR, hF, hb⟩ := HI.out
      rw [List.drop_eq_nil_of_le (by omega), List.take_length, List.map_nil, List.append_nil] at hR
      have HRR := Lib.hid (R_unRaw hR)
      clear hR hF
      go_wp2_with fail
      go_ret
      exact ⟨_, rfl, HRR.out, hb⟩
end Go.Proofs.YthlcjjhfkldmhaaDoor.G
