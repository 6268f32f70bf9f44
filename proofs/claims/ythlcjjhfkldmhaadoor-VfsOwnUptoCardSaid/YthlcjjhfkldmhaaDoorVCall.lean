/- (*vfs.Fs).call. Printed by wip/tools/gen_vcall.py. -/
import Derived.Test.YthlcjjhfkldmhaaDoorVOps
set_option linter.unusedVariables false
set_option linter.unusedSimpArgs false
namespace Go.Proofs.YthlcjjhfkldmhaaDoor.G
open Go.RowKit Go.Lib Go.Proofs.YthlcjjhfkldmhaaDoorW.PrintWords Go.Proofs.YthlcjjhfkldmhaaDoorW.PrintLast
set_option linter.unusedVariables false
set_option linter.unusedSimpArgs false

/-- What a call by its kind leaves. -/
def CallPost (w : World) (g r : Nat) (O : Nat → Prop) (tb : Option Nat) (f : FsV) (x : Req) (Ap : Option Addr) (cp : Nat) (Ad : Option Addr) (cd : Nat) (res : FsV × Told × Int) (e : Ending) (w' : World) : Prop :=
  e = .returned (.int .i64 res.2.2) ∧ (∃ tb', (tb' = tb ∨ ∃ j, tb' = some j ∧ w.heap.size ≤ j) ∧ FsAt w' g (fun k => O k ∨ w.heap.size ≤ k ∧ k < w'.heap.size) tb' res.1) ∧ w'.heap[r]? = some (.cells (reqCells x Ap cp Ad cd res.2.1) 94 (0, 0)) ∧ Only (fun k => k = g ∨ k = r ∨ tb = some k) w w'
theorem info_call : (Tryd.prog.info? 59).map (fun i => (i.zero, i.size, i.bytes)) = some (some (.agg #[.int .u8 0, .slice none 0 0, .slice none 0 0, .int .i64 0]), 4, 64) := by kernel_rfl
set_option maxHeartbeats 8000000 in
set_option maxRecDepth 100000 in
theorem call_fs (k : Int) (h1 : 1 ≤ k) (h5 : k ≤ 5) (w : World) (g r : Nat) (O : Nat → Prop) (tb : Option Nat) (f : FsV) (x : Req) (Ap : Option Addr) (cp : Nat) (Ad : Option Addr) (cd : Nat) (hfs : FsAt w g O tb f) (hreq : w.heap[r]? = some (.cells #[.slice Ap x.p.length cp, .slice Ad x.dest.length cd, .string x.data, .int .u8 0, .int .i64 0] 94 (0, 0))) (hrg : r ≠ g) (hrO : ¬ O r) (hgO : ¬ O g) (hbt : f.tree.bulk ≤ 100000000) (HP : Kd.F Kd.string w (fun k => k ≠ g ∧ k ≠ r ∧ tb ≠ some k) Ap x.p.length x.p) (hcp : x.p.length ≤ cp) (hpB : P.sumP x.p ≤ 1099511627776) (HPD : Kd.F Kd.string w (fun k => k ≠ g ∧ k ≠ r ∧ tb ≠ some k) Ad x.dest.length x.dest) (hcd : x.dest.length ≤ cd) (hdB : P.sumP x.dest ≤ 1099511627776) (hdb : x.data.size ≤ 100000000) (htl : f.trace.length ≤ 2000000) :
    Calls Tryd.prog 47 #[.pointer (some ⟨g, 0, none⟩), .int .u8 k, .pointer (some ⟨r, 0, none⟩)] w fun e w' => CallPost w g r O tb f x Ap cp Ad cd (callV f k x) e w' := by
  have hp := Kd.F_now HP
  have hpd := Kd.F_now HPD
  replace HP := Lib.hid HP
  replace HPD := Lib.hid HPD
  have HFS0 := Lib.hid hfs
  obtain ⟨A, c, v, m, lo, hi, hbox, hle, hiv, hsep, htr, htb, hfl, hOm, hOlt⟩ := hfs
  unfold fsCells at hbox
  obtain ⟨AT, ct, rfl⟩ := Kd.R_slice htr
  have HFL := Lib.hid (show Hd (fun W => Faulted W m f.faults) w from fun W hW => hfl.mv (hW.block m hfl.lt))
  obtain ⟨bf, hbf⟩ : ∃ b, decide ((f.trace.length : Int) ∈ f.faults) = b := ⟨_, rfl⟩
  have HBF := Lib.hid hbf
  clear hbf
  have hgl := blk_lt hbox
  have hrl := blk_lt hreq
  have HTR0 := Lib.hid htr
  have HTB0 := Lib.hid htb
  have HFSK := Lib.hid (And.intro hle (And.intro hiv (And.intro hsep (And.intro htr (And.intro htb (And.intro hfl (And.intro hOm hOlt)))))))
  have hlen := P.sumP_len x.p
  have hlen2 := P.sumP_len x.dest
  have hb0 := Below.refl w.heap.size w
  have I := Lib.hid (Hd.base hb0 (by first | exact Nat.le_refl _ | exact Below.size hb0))
  replace I := Lib.hid (Hd.and I.out (Hd.box hbox))
  replace I := Lib.hid (Hd.and I.out (Hd.box hreq))
  replace I := Lib.hid (Hd.and I.out (Hd.reads (hp)))
  replace I := Lib.hid (Hd.and I.out (Hd.reads (hpd)))
  replace I := Lib.hid (Hd.and I.out (HFL.out))
  obtain ⟨b1, hb1⟩ : ∃ b, P.rightB x.p = b := ⟨_, rfl⟩
  obtain ⟨b2, hb2⟩ : ∃ b, P.rightB x.dest = b := ⟨_, rfl⟩
  have HB1 := Lib.hid hb1
  have HB2 := Lib.hid hb2
  obtain ⟨⟨tr, tl, wy⟩, hrs⟩ : ∃ r, (if (f.trace.length : Int) ∈ f.faults then (f.tree, told0 x.data, 42) else opR k f.tree x) = r := ⟨_, rfl⟩
  have HRS := Lib.hid hrs
  clear hb1 hb2 hrs hiv hsep htr hfl hOm hOlt hp hpd hbox htb hreq
  go_enter Tryd.func47, Tryd.ntmps47
  have lr0 := cell_of (j := 0) I.out.now.2.2.2.1 rfl
  have lr1 := cell_of (j := 1) I.out.now.2.2.2.1 rfl
  have lr2 := cell_of (j := 2) I.out.now.2.2.2.1 rfl
  have lr3 := cell_of (j := 3) I.out.now.2.2.2.1 rfl
  have lr4 := cell_of (j := 4) I.out.now.2.2.2.1 rfl
  go_wp2_with fail
  clear lr0 lr1 lr2 lr3 lr4
  refine (show Calls Tryd.prog 34 #[.slice Ap x.p.length cp] w _ from P.right_calls Ap cp x.p w I.out.now.2.2.1 hcp (by omega) (by omega)).mono ?_
  rw [HB1.out]
  rintro e w1 ⟨rfl, hq1⟩
  replace I := Lib.hid (Hd.mv I.out hq1)
  cases b1
  · skip
    go_wp2_with fail
    have hbw1 := I.out.now.2.2.2.2.2
    have HFS1 := Lib.hid (HFS0.out.below hbw1)
    have hs1 := hbw1.size
    have HRQ1 := Lib.hid I.out.now.2.2.2.1
    go_ret
    have hcv : callV f k x = (f, told0 x.data, 20) := by unfold callV; exact if_neg (fun h => absurd (h.1.symm.trans HB1.out) (by decide))
    rw [hcv]
    exact ⟨rfl, ⟨tb, .inl rfl, HFS1.out.mono (fun k h => .inl h) (fun k h => h.elim (fun h => HFS1.out.lts k h) fun h => h.2)⟩, HRQ1.out, Only.of_belowV hbw1 _⟩
  · skip
    have lr0 := cell_of (j := 0) I.out.now.2.2.2.1 rfl
    have lr1 := cell_of (j := 1) I.out.now.2.2.2.1 rfl
    have lr2 := cell_of (j := 2) I.out.now.2.2.2.1 rfl
    have lr3 := cell_of (j := 3) I.out.now.2.2.2.1 rfl
    have lr4 := cell_of (j := 4) I.out.now.2.2.2.1 rfl
    go_wp2_with fail
    clear lr0 lr1 lr2 lr3 lr4
    refine (show Calls Tryd.prog 34 #[.slice Ad x.dest.length cd] w1 _ from P.right_calls Ad cd x.dest w1 I.out.now.2.1 hcd (by omega) (by omega)).mono ?_
    rw [HB2.out]
    rintro e w2 ⟨rfl, hq2⟩
    replace I := Lib.hid (Hd.mv I.out hq2)
    cases b2
    · skip
      go_wp2_with fail
      have hbw2 := I.out.now.2.2.2.2.2
      have HFS2 := Lib.hid (HFS0.out.below hbw2)
      have hs2 := hbw2.size
      have HRQ2 := Lib.hid I.out.now.2.2.2.1
      go_ret
      have hcv : callV f k x = (f, told0 x.data, 20) := by unfold callV; exact if_neg (fun h => absurd (h.2.symm.trans HB2.out) (by decide))
      rw [hcv]
      exact ⟨rfl, ⟨tb, .inl rfl, HFS2.out.mono (fun k h => .inl h) (fun k h => h.elim (fun h => HFS2.out.lts k h) fun h => h.2)⟩, HRQ2.out, Only.of_belowV hbw2 _⟩
    · skip
      have hps := P.rightB_sum HB1.out
      have hpt := P.rightB_sum HB2.out
      go_wp2_with fail
      refine start_ (n := 11) (S := fun w' => w'.heap[g]? = some (.cells #[.string f.tree.name, .int .u8 f.tree.kind, .string f.tree.data, .slice A f.tree.files.length c, .slice AT f.trace.length ct, .map (some m)] 86 (0, 0)) ∧ Faulted w' m f.faults) (ds := []) (bq 11 0) (by kernel_rfl) rfl rfl ⟨(I.out _ (bdrew (Below.refl w2.heap.size w2))).2.2.2.2.1, (I.out _ (bdrew (Below.refl w2.heap.size w2))).1⟩ (fun hHeld => ?_)
      refine pure_ (i := 0) (N := some 25) (v := ?_) (a' := ?_) (bq 11 1) rfl rfl (by kernel_rfl) (fun _ _ _ h => h) (Or.inl ⟨by rfl, ?_⟩) ?_ ?_
      rotate_left
      · intro w'
        go_simp
        with_reducible rfl
      rotate_left
      · simp only [Act.put, List.setIfInBounds_toArray, List.set_cons_zero, List.set_cons_succ, i64_w, i32_w]
        rfl
      refine pure_ (i := 1) (N := some 26) (v := ?_) (a' := ?_) (bq 11 3) rfl rfl (by kernel_rfl) (fun _ _ _ h => h) (Or.inl ⟨by rfl, ?_⟩) ?_ ?_
      rotate_left
      · intro w'
        go_simp
        with_reducible rfl
      rotate_left
      · simp only [Act.put, List.setIfInBounds_toArray, List.set_cons_zero, List.set_cons_succ, i64_w, i32_w]
        rfl
      refine pure_ (i := 2) (N := some 27) (v := ?_) (a' := ?_) (bq 11 7) rfl rfl (by kernel_rfl) (fun _ _ _ h => h) (Or.inl ⟨by rfl, ?_⟩) ?_ ?_
      rotate_left
      · intro w'
        go_simp
        with_reducible rfl
      rotate_left
      · simp only [Act.put, List.setIfInBounds_toArray, List.set_cons_zero, List.set_cons_succ, i64_w, i32_w]
        rfl
      refine pure_ (i := 4) (N := some 29) (v := ?_) (a' := ?_) (bq 11 23) rfl rfl (by kernel_rfl) (fun _ _ _ h => h) (Or.inl ⟨by rfl, ?_⟩) ?_ ?_
      rotate_left
      · intro w'
        go_simp
        with_reducible rfl
      rotate_left
      · simp only [Act.put, List.setIfInBounds_toArray, List.set_cons_zero, List.set_cons_succ, i64_w, i32_w]
        rfl
      refine pure_ (i := 5) (N := some 30) (v := ?_) (a' := ?_) (bq 11 55) rfl rfl (by kernel_rfl) (fun _ _ _ h => h) (Or.inl ⟨by rfl, ?_⟩) ?_ ?_
      rotate_left
      · intro w'
        go_simp
        with_reducible rfl
      rotate_left
      · simp only [Act.put, List.setIfInBounds_toArray, List.set_cons_zero, List.set_cons_succ, i64_w, i32_w]
        rfl
      refine pure_ (i := 6) (N := some 31) (v := ?_) (a' := ?_) (bq 11 119) rfl rfl (by kernel_rfl) (fun _ _ _ h => h) (Or.inl ⟨by rfl, ?_⟩) ?_ ?_
      rotate_left
      · intro w'
        go_simp
        with_reducible rfl
      rotate_left
      · simp only [Act.put, List.setIfInBounds_toArray, List.set_cons_zero, List.set_cons_succ, i64_w, i32_w]
        rfl
      refine take_ (i := 3) (N := some 28) (v := ?_) (a' := ?_) (bq 11 127) rfl rfl (by kernel_rfl) (fun _ _ _ h => h) (Or.inl ⟨by rfl, ?_⟩) hHeld ?_ ?_
      rotate_left
      · rintro w' ⟨s0, s1⟩
        have q0 := cell_of (j := 0) s0 rfl
        have q1 := cell_of (j := 1) s0 rfl
        have q2 := cell_of (j := 2) s0 rfl
        have q3 := cell_of (j := 3) s0 rfl
        have q4 := cell_of (j := 4) s0 rfl
        have q5 := cell_of (j := 5) s0 rfl
        go_simp
        with_reducible rfl
      rotate_left
      · simp only [Act.put, List.setIfInBounds_toArray, List.set_cons_zero, List.set_cons_succ, i64_w, i32_w]
        rfl
      refine take_ (i := 7) (N := some 32) (v := ?_) (a' := ?_) (bq 11 255) rfl rfl (by kernel_rfl) (fun _ _ _ h => h) (Or.inl ⟨by rfl, ?_⟩) hHeld ?_ ?_
      rotate_left
      · rintro w' ⟨s0, s1⟩
        have q0 := cell_of (j := 0) s0 rfl
        have q1 := cell_of (j := 1) s0 rfl
        have q2 := cell_of (j := 2) s0 rfl
        have q3 := cell_of (j := 3) s0 rfl
        have q4 := cell_of (j := 4) s0 rfl
        have q5 := cell_of (j := 5) s0 rfl
        go_simp
        with_reducible rfl
      rotate_left
      · simp only [Act.put, List.setIfInBounds_toArray, List.set_cons_zero, List.set_cons_succ, i64_w, i32_w]
        rfl
      refine pure_ (i := 8) (N := some 33) (v := ?_) (a' := ?_) (bq 11 511) rfl rfl (by kernel_rfl) (fun _ _ _ h => h) (Or.inl ⟨by rfl, ?_⟩) ?_ ?_
      rotate_left
      · intro w'
        go_simp
        with_reducible rfl
      rotate_left
      · simp only [Act.put, List.setIfInBounds_toArray, List.set_cons_zero, List.set_cons_succ, i64_w, i32_w]
        rfl
      refine take_ (i := 9) (N := some 34) (v := ?_) (a' := ?_) (bq 11 1023) rfl rfl (by kernel_rfl) (fun _ _ _ h => h) (Or.inl ⟨by rfl, ?_⟩) hHeld ?_ ?_
      rotate_left
      · rintro w' ⟨s0, s1⟩
        have hlk := fault_lookup s1 (f.trace.length : Int)
        rw [HBF.out] at hlk
        go_simp
        with_reducible rfl
      rotate_left
      · simp only [Act.put, List.setIfInBounds_toArray, List.set_cons_zero, List.set_cons_succ, i64_w, i32_w]
        rfl
      refine pure_ (i := 10) (N := some 35) (v := ?_) (a' := ?_) (bq 11 2047) rfl rfl (by kernel_rfl) (fun _ _ _ h => h) (Or.inl ⟨by rfl, ?_⟩) ?_ ?_
      rotate_left
      · intro w'
        go_simp
        with_reducible rfl
      rotate_left
      · simp only [Act.put, List.setIfInBounds_toArray, List.set_cons_zero, List.set_cons_succ, i64_w, i32_w]
        rfl
      refine done_ (by kernel_rfl) ?_
      have hq3 := (bdrew (Below.refl w2.heap.size w2))
      clear hHeld
      replace I := Lib.hid (Hd.mv I.out hq3)
      generalize w2.drew = W3 at *
      have hbw3 := I.out.now.2.2.2.2.2
      have HFS3 := Lib.hid (HFS0.out.below hbw3)
      have hs3 := hbw3.size
      have HRQ3 := Lib.hid I.out.now.2.2.2.1
      rename_i K1 hK1 K2 hK2
      have HT : Hid (∀ (a : Act) (W5 : World), (fun a W5 => (∃ v3 v4 v5 v6 v8 v9 v10 v11 v12 v13 v14 v15 v16 v17 v18 v19 v20 v21 v22 v23 v24 v25 v26 v27 v28 v29 v30 v31 v32 v33 v34 v35 v36 v37 v38 v39 v40 v41 v42 v43 v44 v45 v46 v47 v48 v49 v50 v51 v52 v53 v54 v55 v56 v57 v58 v59 v60 v61 v62 v63 v64 v65 v66 v67 v68, a = { tmps := #[.pointer (some ⟨g, 0, none⟩), .int .u8 k, .pointer (some ⟨r, 0, none⟩), v3, v4, v5, v6, .int .i64 wy, v8, v9, v10, v11, v12, v13, v14, v15, v16, v17, v18, v19, v20, v21, v22, v23, v24, v25, v26, v27, v28, v29, v30, v31, v32, v33, v34, v35, v36, v37, v38, v39, v40, v41, v42, v43, v44, v45, v46, v47, v48, v49, v50, v51, v52, v53, v54, v55, v56, v57, v58, v59, v60, v61, v62, v63, v64, v65, v66, v67, v68], defers := [] }) ∧ FsAt W5 g (fun k => O k ∨ w.heap.size ≤ k ∧ k < W5.heap.size) tb { f with tree := tr } ∧ W5.heap[r]? = some (.cells (reqCells x Ap cp Ad cd tl) 94 (0, 0)) ∧ Only (fun k => k = g ∨ k = r) w W5) a W5 → K1 a W5) := Lib.hid ?tail
      case tail =>
        intro a W5 hF5
        obtain ⟨⟨v3, v4, v5, v6, v8, v9, v10, v11, v12, v13, v14, v15, v16, v17, v18, v19, v20, v21, v22, v23, v24, v25, v26, v27, v28, v29, v30, v31, v32, v33, v34, v35, v36, v37, v38, v39, v40, v41, v42, v43, v44, v45, v46, v47, v48, v49, v50, v51, v52, v53, v54, v55, v56, v57, v58, v59, v60, v61, v62, v63, v64, v65, v66, v67, v68, rfl⟩, hF5, hr5, ho5⟩ := hF5
        refine hK1 _ _ ?_
        have HF5 := Lib.hid hF5
        have HR5 := Lib.hid hr5
        have HO5 := Lib.hid ho5
        clear hF5 hr5 ho5 HFS3 HRQ3 hbw3 hs3
        have ho5 := HO5.out
        have HP5 := Lib.hid (Kd.F_step HP.out fun k hk hl => ho5.block k hl fun e => e.elim hk.1 hk.2.1)
        have HPD5 := Lib.hid (Kd.F_step HPD.out fun k hk hl => ho5.block k hl fun e => e.elim hk.1 hk.2.1)
        have hgl5' := HF5.out.lt
        clear ho5 I
        have I := Lib.hid (Hd.base (Below.refl W5.heap.size W5) (by first | exact Nat.le_refl _ | exact Below.size (Below.refl W5.heap.size W5)))
        replace I := Lib.hid (Hd.and I.out (Hd.box HR5.out))
        replace I := Lib.hid (Hd.and I.out (Hd.reads (Kd.F_now HP5.out)))
        replace I := Lib.hid (Hd.and I.out (Hd.reads (Kd.F_now HPD5.out)))
        replace I := Lib.hid (Hd.and I.out ((show Hd (fun W => FsAt W g (fun k => O k ∨ w.heap.size ≤ k ∧ k < W5.heap.size) tb { f with tree := tr }) W5 from fun W hW => HF5.out.below hW)))
        have HRR := Lib.hid (show _ = some (Obj.cells #[.slice Ap x.p.length cp, .slice Ad x.dest.length cd, .string tl.data, .int .u8 tl.kind, .int .i64 tl.size] 94 (0, 0)) from I.out.now.2.2.2.1)
        have lr0 := cell_of (j := 0) HRR.out rfl
        have lr1 := cell_of (j := 1) HRR.out rfl
        have lr2 := cell_of (j := 2) HRR.out rfl
        have lr3 := cell_of (j := 3) HRR.out rfl
        have lr4 := cell_of (j := 4) HRR.out rfl
        go_wp2_with fail
        clear lr0 lr1 lr2 lr3 lr4 HRR
        refine ((P.clone_calls Ap cp x.p W5 I.out.now.2.2.1 hcp (by omega))).mono ?_
        rintro e w1 ⟨v1, rfl, hR1, hq1⟩
        replace I := Lib.hid (Hd.mv I.out hq1)
        have hsc1 := hq1.size
        replace I := Lib.hid (Hd.and I.out (Hd.rows (Kd.R_elderB hR1 w1.heap.size (Nat.le_refl _))))
        obtain ⟨A1, c1, rfl⟩ := Kd.R_slice hR1
        clear hR1
        by_cases hkk : k = 5
        rotate_left
        · skip
          have hkb : (k == 5) = false := beq_eq_false_iff_ne.2 hkk
          have HDL := Lib.hid (show (if k = 5 then x.dest else []) = [] from if_neg hkk)
          clear hkk
          have ha2 := below_alloc (Below.refl w1.heap.size w1) (.cells #[.int .u8 k, .slice A1 x.p.length c1, .slice none 0 0, .int .i64 wy] 59)
          replace I := Lib.hid (Hd.mv I.out ha2)
          replace I := Lib.hid (Hd.and I.out (Hd.box (blk_new w1 (.cells #[.int .u8 k, .slice A1 x.p.length c1, .slice none 0 0, .int .i64 wy] 59))))
          go_wp2_with fail
          generalize (w1.alloc (.cells #[.int .u8 k, .slice A1 x.p.length c1, .slice none 0 0, .int .i64 wy] 59)) = W2 at *
          have hqd := bdrew (Below.refl W2.heap.size W2)
          replace I := Lib.hid (Hd.mv I.out hqd)
          have HFS9 := Lib.hid I.out.now.2.2.1
          obtain ⟨A5, c5, v5, m5, lo5, hi5, hbox5, hle5, hiv5, hsep5, htr5, htb5, hfl5, hOm5, hOlt5⟩ := I.out.now.2.2.1
          unfold fsCells at hbox5
          obtain ⟨AT5, ct5, rfl⟩ := Kd.R_slice htr5
          simp only at hbox5 hle5 htr5 hfl5 hiv5
          have HG5 := Lib.hid hbox5
          have HIV5 := Lib.hid hiv5
          have HTR5 := Lib.hid htr5
          have HTB5 := Lib.hid htb5
          have HFL5 := Lib.hid hfl5
          have hgl5 := blk_lt hbox5
          have hml5 := hfl5.lt
          have hmg5 := hfl5.ne hbox5
          have hcl5 := blk_lt I.out.now.1
          have hbw5 := I.out.now.2.2.2.2.2.2
          have hsw5 := hbw5.size
          have htl5 : ∀ k, tb = some k → O k := fun k e => by
            have h := ((Kd.R_bound HTR0.out).1 k (HTB0.out.trans e)).1
            exact h
          have hlt0 : ∀ k, O k → k < w.heap.size := HFS0.out.lts
          have hso5 := HO5.out.size
          clear hbox5 hiv5 htr5 htb5 hfl5
          refine start_ (n := 11) (S := fun w' => w'.heap[g]? = some (.cells #[.string tr.name, .int .u8 tr.kind, .string tr.data, .slice A5 tr.files.length c5, .slice AT5 f.trace.length ct5, .map (some m5)] 86 (0, 0)) ∧ w'.heap[w1.heap.size]? = some (.cells #[.int .u8 k, .slice A1 x.p.length c1, .slice none 0 0, .int .i64 wy] 59 (0, 0))) (ds := [10]) (bq 11 0) (by kernel_rfl) rfl rfl ⟨HG5.out, I.out.now.1⟩ (fun hHeld => ?_)
          generalize W2.drew = WD at *
          refine pure_ (i := 0) (N := some 58) (v := ?_) (a' := ?_) (bq 11 1) rfl rfl (by kernel_rfl) (fun _ _ _ h => h) (Or.inl ⟨by rfl, ?_⟩) ?_ ?_
          rotate_left
          · intro w'
            go_simp
            with_reducible rfl
          rotate_left
          · simp only [Act.put, List.setIfInBounds_toArray, List.set_cons_zero, List.set_cons_succ, i64_w, i32_w]
            rfl
          refine pure_ (i := 1) (N := some 59) (v := ?_) (a' := ?_) (bq 11 3) rfl rfl (by kernel_rfl) (fun _ _ _ h => h) (Or.inl ⟨by rfl, ?_⟩) ?_ ?_
          rotate_left
          · intro w'
            go_simp
            with_reducible rfl
          rotate_left
          · simp only [Act.put, List.setIfInBounds_toArray, List.set_cons_zero, List.set_cons_succ, i64_w, i32_w]
            rfl
          refine pure_ (i := 2) (N := some 60) (v := ?_) (a' := ?_) (bq 11 7) rfl rfl (by kernel_rfl) (fun _ _ _ h => h) (Or.inl ⟨by rfl, ?_⟩) ?_ ?_
          rotate_left
          · intro w'
            go_simp
            with_reducible rfl
          rotate_left
          · simp only [Act.put, List.setIfInBounds_toArray, List.set_cons_zero, List.set_cons_succ, i64_w, i32_w]
            rfl
          refine pure_ (i := 3) (N := some 61) (v := ?_) (a' := ?_) (bq 11 15) rfl rfl (by kernel_rfl) (fun _ _ _ h => h) (Or.inl ⟨by rfl, ?_⟩) ?_ ?_
          rotate_left
          · intro w'
            go_simp
            with_reducible rfl
          rotate_left
          · simp only [Act.put, List.setIfInBounds_toArray, List.set_cons_zero, List.set_cons_succ, i64_w, i32_w]
            rfl
          refine take_ (i := 4) (N := some 62) (v := ?_) (a' := ?_) (bq 11 31) rfl rfl (by kernel_rfl) (fun _ _ _ h => h) (Or.inl ⟨by rfl, ?_⟩) hHeld ?_ ?_
          rotate_left
          · rintro w' ⟨s0, s1⟩
            have q0 := cell_of (j := 0) s0 rfl
            have q1 := cell_of (j := 1) s0 rfl
            have q2 := cell_of (j := 2) s0 rfl
            have q3 := cell_of (j := 3) s0 rfl
            have q4 := cell_of (j := 4) s0 rfl
            have q5 := cell_of (j := 5) s0 rfl
            go_simp
            with_reducible rfl
          rotate_left
          · simp only [Act.put, List.setIfInBounds_toArray, List.set_cons_zero, List.set_cons_succ, i64_w, i32_w]
            rfl
          refine take_ (i := 5) (N := some 63) (v := ?_) (a' := ?_) (bq 11 63) rfl rfl (by kernel_rfl) (fun _ _ _ h => h) (Or.inl ⟨by rfl, ?_⟩) hHeld ?_ ?_
          rotate_left
          · rintro w' ⟨s0, s1⟩
            have q0 := cell_of (j := 0) s1 rfl
            have q1 := cell_of (j := 1) s1 rfl
            have q2 := cell_of (j := 2) s1 rfl
            have q3 := cell_of (j := 3) s1 rfl
            go_simp
            with_reducible rfl
          rotate_left
          · simp only [Act.put, List.setIfInBounds_toArray, List.set_cons_zero, List.set_cons_succ, i64_w, i32_w]
            rfl
          refine one_ (i := 6) (N := some 64) (bq 11 127) rfl rfl (by kernel_rfl) (by decide) (fun K hK => ?_)
          refine value_ (w1 := ?_) (v := ?_) (by rfl) rfl ?_ ?_
          rotate_left 2
          · go_simp
            constructor
            · rfl
            · rfl
          have hba := below_alloc (Below.refl WD.heap.size WD) (.cells #[.int .u8 k, .slice A1 x.p.length c1, .slice none 0 0, .int .i64 wy] 59)
          refine hK.out _ _ ⟨(hba.block _ hgl5).trans HG5.out, (hba.block _ hcl5).trans I.out.now.1⟩ (fun hHeld => ?_)
          refine norm_ (a' := ?_) ?_ ?_
          rotate_left
          · show Act.put _ (some 64) _ = _
            simp only [Act.put, List.setIfInBounds_toArray, List.set_cons_zero, List.set_cons_succ, i64_w, i32_w]
            rfl
          refine one_ (i := 7) (N := some 65) (bq 11 255) rfl rfl (by kernel_rfl) (by decide) (fun K hK => ?_)
          refine Kd.R_append_step CallK (w0 := WD) 0 (by rfl) (.tmp 62) (.tmp 64) 57 59 (.agg #[.int .u8 0, .slice none 0 0, .slice none 0 0, .int .i64 0]) 64 rfl Tryd.underlying57 info_call rfl (by decide) (by omega) (.slice AT5 f.trace.length ct5) f.trace ⟨k, x.p, [], wy⟩ [.int .u8 k, .slice A1 x.p.length c1, .slice none 0 0, .int .i64 wy] (fun j => O j ∨ w.heap.size ≤ j) (fun j => W5.heap.size ≤ j) rfl rfl ?aP ?aK ?aF ?aO ?aB ?aS ?aL ?_
          case aP => exact call_mkM _ 0 _ ⟨k, x.p, [], wy⟩ (Kd.R_lower (Kd.R_mono (Kd.R_bound I.out.now.2.1) fun j hj => hj.2.1) (Nat.zero_le _)) (Kd.R_nil _ _ _ _ _)
          case aK => exact fun j hj => ⟨.inr (by omega), fun e => by
            have h := htl5 j (HTB5.out.symm.trans e.symm)
            have := hlt0 j h
            omega⟩
          case aF => exact fun j hj => .inr (by omega)
          case aO => exact Kd.R_mono HTR5.out fun j hj => hj.imp id fun h => h.1
          case aB => exact Below.refl _ _
          case aS => exact Nat.zero_le _
          case aL => omega
          intro v2 w2 ho2 hb2 hg2 hat2
          have HO2 := Lib.hid ho2
          have HB2' := Lib.hid hb2
          have hs2' := hg2.size
          have HOG := Lib.hid (Only.grown_of hg2)
          have hne2 : ∀ j, (O j → tb ≠ some j) → j < WD.heap.size → w2.heap[j]? = WD.heap[j]? := fun j hj hl => hg2.block j hl (fun e => by
            have e2 := HTB5.out.symm.trans e.symm
            exact hj (htl5 j e2) e2)
          have HG6 := Lib.hid ((hne2 g (fun h => absurd h hgO) hgl5).trans HG5.out)
          have HC6 := Lib.hid ((hne2 w1.heap.size (fun h => by have := hlt0 _ h; omega) hcl5).trans I.out.now.1)
          have HIV6 := Lib.hid (HIV5.out.mv fun j h1 h2 => hne2 j (fun _ => (hsep5 j h1 h2).2.2) (HFS9.out.lts j (hsep5 j h1 h2).1))
          have HFL6 := Lib.hid (HFL5.out.mv (hne2 m5 (fun _ => ?aM) hml5))
          case aM =>
            intro e
            obtain ⟨cells, hc⟩ := Kd.R_typed HTR5.out m5 (HTB5.out.trans e)
            obtain ⟨es, clock, hm, _⟩ := HFL5.out
            rw [hm] at hc
            cases hc
          have HX6 : Hid (∀ j, j < WD.heap.size → tb ≠ some j → w2.heap[j]? = WD.heap[j]?) := Lib.hid fun j hl h => hne2 j (fun _ => h) hl
          have HV2 : Hid (v2.ownBlock = tb ∨ ∃ b, v2.ownBlock = some b ∧ WD.heap.size ≤ b) := Lib.hid (hat2.imp (fun h => h.trans HTB5.out) id)
          obtain ⟨AT6, ct6, rfl⟩ := Kd.R_slice ho2
          clear ho2 hb2 hg2 hat2 hne2
          have hlen6 : (f.trace ++ [(⟨k, x.p, [], wy⟩ : Call)]).length = f.trace.length + 1 := by simp
          rw [hlen6] at HO2 HV2
          refine hK.out _ _ ⟨HG6.out, HC6.out⟩ (fun hHeld => ?_)
          refine norm_ (a' := ?_) ?_ ?_
          rotate_left
          · show Act.put _ (some 65) _ = _
            simp only [Act.put, List.setIfInBounds_toArray, List.set_cons_zero, List.set_cons_succ, i64_w, i32_w]
            rfl
          refine pure_ (i := 8) (N := some 66) (v := ?_) (a' := ?_) (bq 11 511) rfl rfl (by kernel_rfl) (fun _ _ _ h => h) (Or.inl ⟨by rfl, ?_⟩) ?_ ?_
          rotate_left
          · intro w'
            go_simp
            with_reducible rfl
          rotate_left
          · simp only [Act.put, List.setIfInBounds_toArray, List.set_cons_zero, List.set_cons_succ, i64_w, i32_w]
            rfl
          refine pure_ (i := 9) (N := some 67) (v := ?_) (a' := ?_) (bq 11 1023) rfl rfl (by kernel_rfl) (fun _ _ _ h => h) (Or.inl ⟨by rfl, ?_⟩) ?_ ?_
          rotate_left
          · intro w'
            go_simp
            with_reducible rfl
          rotate_left
          · simp only [Act.put, List.setIfInBounds_toArray, List.set_cons_zero, List.set_cons_succ, i64_w, i32_w]
            rfl
          refine last_ (i := 10) (N := none) (bq 11 2047) rfl rfl (by kernel_rfl) (by decide) (fun K hK => ?_)
          have zg4 := cell_of (j := 4) HG6.out rfl
          have ug4 := unfr HG6.out 4
          refine skip_ (w1 := ?_) (by rfl) rfl ?_ ?_
          rotate_left
          · go_simp
            rfl
          refine hK.out _ _ ?_
          refine done_ (by kernel_rfl) ?_
          go_wp2_with fail
          go_ret
          have hcv : callV f k x = (⟨tr, f.trace ++ [⟨k, x.p, [], wy⟩], f.faults⟩, tl, wy) := by
            unfold callV
            rw [if_pos ⟨HB1.out, HB2.out⟩]
            simp only [HRS.out, HDL.out]
          rw [hcv]
          have hz9 : (w2.setCell ⟨g, 4, none⟩ (.slice AT6 (f.trace.length + 1) ct6)).heap.size = w2.heap.size := by simp [World.setCell]
          have htb9 : ∀ j, tb = some j → j < w.heap.size := fun j e => hlt0 j (htl5 j e)
          refine ⟨rfl, ⟨_, HV2.out.imp id (fun ⟨b, e, h⟩ => ⟨b, e, by omega⟩), ?_⟩, ?_, ?_⟩
          · refine ⟨A5, c5, .slice AT6 (f.trace.length + 1) ct6, m5, lo5, hi5, ?_, hle5, HIV6.out.mv fun k h1 h2 => Below.heap_setCell _ _ _ _ (hsep5 k h1 h2).2.1, fun k h1 h2 => ⟨(hsep5 k h1 h2).1.imp id fun h => ⟨h.1, by omega⟩, (hsep5 k h1 h2).2.1, fun e => ?_⟩, ?_, rfl, HFL6.out.mv (Below.heap_setCell _ _ _ _ hmg5), hOm5.imp id fun h => ⟨h.1, by omega⟩, fun k h => h.elim (fun h => by have := hlt0 k h; omega) fun h => h.2⟩
            · have h := blk_put (cs := #[.string tr.name, .int .u8 tr.kind, .string tr.data, .slice A5 tr.files.length c5, .slice AT5 f.trace.length ct5, .map (some m5)]) HG6.out 4 (.slice AT6 (f.trace.length + 1) ct6) rfl
              exact h
            · rcases HV2.out with h | ⟨b, h, hb⟩
              · exact (hsep5 k h1 h2).2.2 (h.symm.trans e)
              · have h9 := HFS9.out.lts k (hsep5 k h1 h2).1
                rw [h] at e
                injection e with e
                omega
            · exact Kd.R_mono (Kd.R_bound (Kd.R_step (Kd.R_types HO2.out HG6.out (by decide)) fun k hk _ => Below.heap_setCell _ _ _ _ hk.2)) fun k hk => hk.1.1.imp id fun h => ⟨h, hk.2.2.1⟩
          · exact (Below.heap_setCell _ _ _ _ hrg).trans ((HX6.out r (by omega) (fun e => hrO (htl5 r e))).trans I.out.now.2.2.2.2.2.1)
          · exact ((HO5.out.trans (Only.of_belowV hbw5 fun _ => False) (K := fun k => k = g ∨ k = r ∨ tb = some k) (fun _ _ h => h.elim .inl fun h => .inr (.inl h)) (fun _ _ h => h.elim)).trans HOG.out (fun _ _ h => h) (fun _ _ h => .inr (.inr (HTB5.out.symm.trans h)))).trans (Only.setCell _ _ _) (fun _ _ h => h) (fun _ _ h => .inl h)
        · skip
          have hkb : (k == 5) = true := beq_iff_eq.2 hkk
          have HDL := Lib.hid (show (if k = 5 then x.dest else []) = x.dest from if_pos hkk)
          clear hkk
          have ha2 := below_alloc (Below.refl w1.heap.size w1) (.cells #[.int .u8 k, .slice A1 x.p.length c1, .slice none 0 0, .int .i64 wy] 59)
          replace I := Lib.hid (Hd.mv I.out ha2)
          replace I := Lib.hid (Hd.and I.out (Hd.box (blk_new w1 (.cells #[.int .u8 k, .slice A1 x.p.length c1, .slice none 0 0, .int .i64 wy] 59))))
          have HRR := Lib.hid (show _ = some (Obj.cells #[.slice Ap x.p.length cp, .slice Ad x.dest.length cd, .string tl.data, .int .u8 tl.kind, .int .i64 tl.size] 94 (0, 0)) from I.out.now.2.2.2.2.2.1)
          have lr0 := cell_of (j := 0) HRR.out rfl
          have lr1 := cell_of (j := 1) HRR.out rfl
          have lr2 := cell_of (j := 2) HRR.out rfl
          have lr3 := cell_of (j := 3) HRR.out rfl
          have lr4 := cell_of (j := 4) HRR.out rfl
          go_wp2_with fail
          clear lr0 lr1 lr2 lr3 lr4 HRR
          generalize (w1.alloc (.cells #[.int .u8 k, .slice A1 x.p.length c1, .slice none 0 0, .int .i64 wy] 59)) = W2 at *
          have hbl := blk_lt I.out.now.1
          refine ((P.clone_calls Ad cd x.dest W2 I.out.now.2.2.2.1 hcd (by omega))).mono ?_
          rintro e w3 ⟨v2, rfl, hR2, hq3⟩
          replace I := Lib.hid (Hd.mv I.out hq3)
          have HQ2 := Lib.hid (Kd.R_mono (Kd.R_bound hR2) (ok' := fun k => W2.heap.size ≤ k) fun k hk => hk.2.1)
          obtain ⟨A2, c2, rfl⟩ := Kd.R_slice hR2
          clear hR2
          have zc2 := cell_of (j := 2) I.out.now.1 rfl
          have zu2 := unfr I.out.now.1 2
          have hlt9 := HF5.out.lts
          have hb9 := Below.setCell (p := ⟨w1.heap.size, 2, none⟩) I.out.now.2.2.2.2.2.2 (by simp only; omega) (.slice A2 x.dest.length c2)
          have hboxc9 := blk_put I.out.now.1 2 (.slice A2 x.dest.length c2) rfl
          have hboxr9 := (Below.heap_setCell w3 ⟨w1.heap.size, 2, none⟩ (.slice A2 x.dest.length c2) r (by simp only; have := HO5.out.size; omega)).trans I.out.now.2.2.2.2.2.1
          have hfs9 := FsAt.keep I.out.now.2.2.1 (w' := (w3.setCell ⟨w1.heap.size, 2, none⟩ (.slice A2 x.dest.length c2))) (fun k hk => Below.heap_setCell _ _ _ _ (by simp only; rcases hk with h | h; (· omega); (· have := hlt9 k h; omega))) (by simp [World.setCell])
          have hcp9 := Kd.R_far (p := ⟨w1.heap.size, 2, none⟩) I.out.now.2.1 (fun k hk => hk.2) (.slice A2 x.dest.length c2)
          have hcq9 := Kd.R_far (p := ⟨w1.heap.size, 2, none⟩) HQ2.out (fun k hk => by simp only; omega) (.slice A2 x.dest.length c2)
          have HB9 := Lib.hid hb9
          have HK9 := Lib.hid (And.intro hboxc9 (And.intro hboxr9 (And.intro hfs9 (And.intro hcp9 hcq9))))
          clear hb9 hboxc9 hboxr9 hfs9 hcp9 hcq9 I
          go_wp2_with fail
          have I := Lib.hid (Hd.base HB9.out (by first | exact Nat.le_refl _ | exact Below.size HB9.out))
          replace I := Lib.hid (Hd.and I.out (Hd.box HK9.out.2.1))
          replace I := Lib.hid (Hd.and I.out ((show Hd (fun W => FsAt W g (fun k => O k ∨ w.heap.size ≤ k ∧ k < W5.heap.size) tb { f with tree := tr }) (w3.setCell ⟨w1.heap.size, 2, none⟩ (.slice A2 x.dest.length c2)) from fun W hW => HK9.out.2.2.1.below hW)))
          replace I := Lib.hid (Hd.and I.out (Hd.rows HK9.out.2.2.2.1))
          replace I := Lib.hid (Hd.and I.out (Hd.rows HK9.out.2.2.2.2))
          replace I := Lib.hid (Hd.and I.out (Hd.box (show _ = some (Obj.cells #[.int .u8 k, .slice A1 x.p.length c1, .slice A2 x.dest.length c2, .int .i64 wy] 59 (0, 0)) from HK9.out.1)))
          generalize (w3.setCell ⟨w1.heap.size, 2, none⟩ (.slice A2 x.dest.length c2)) = W9 at *
          have hqd := bdrew (Below.refl W9.heap.size W9)
          replace I := Lib.hid (Hd.mv I.out hqd)
          have HFS9 := Lib.hid I.out.now.2.2.2.1
          obtain ⟨A5, c5, v5, m5, lo5, hi5, hbox5, hle5, hiv5, hsep5, htr5, htb5, hfl5, hOm5, hOlt5⟩ := I.out.now.2.2.2.1
          unfold fsCells at hbox5
          obtain ⟨AT5, ct5, rfl⟩ := Kd.R_slice htr5
          simp only at hbox5 hle5 htr5 hfl5 hiv5
          have HG5 := Lib.hid hbox5
          have HIV5 := Lib.hid hiv5
          have HTR5 := Lib.hid htr5
          have HTB5 := Lib.hid htb5
          have HFL5 := Lib.hid hfl5
          have hgl5 := blk_lt hbox5
          have hml5 := hfl5.lt
          have hmg5 := hfl5.ne hbox5
          have hcl5 := blk_lt I.out.now.1
          have hbw5 := I.out.now.2.2.2.2.2
          have hsw5 := hbw5.size
          have htl5 : ∀ k, tb = some k → O k := fun k e => by
            have h := ((Kd.R_bound HTR0.out).1 k (HTB0.out.trans e)).1
            exact h
          have hlt0 : ∀ k, O k → k < w.heap.size := HFS0.out.lts
          have hso5 := HO5.out.size
          clear hbox5 hiv5 htr5 htb5 hfl5
          refine start_ (n := 11) (S := fun w' => w'.heap[g]? = some (.cells #[.string tr.name, .int .u8 tr.kind, .string tr.data, .slice A5 tr.files.length c5, .slice AT5 f.trace.length ct5, .map (some m5)] 86 (0, 0)) ∧ w'.heap[w1.heap.size]? = some (.cells #[.int .u8 k, .slice A1 x.p.length c1, .slice A2 x.dest.length c2, .int .i64 wy] 59 (0, 0))) (ds := [10]) (bq 11 0) (by kernel_rfl) rfl rfl ⟨HG5.out, I.out.now.1⟩ (fun hHeld => ?_)
          generalize W9.drew = WD at *
          refine pure_ (i := 0) (N := some 58) (v := ?_) (a' := ?_) (bq 11 1) rfl rfl (by kernel_rfl) (fun _ _ _ h => h) (Or.inl ⟨by rfl, ?_⟩) ?_ ?_
          rotate_left
          · intro w'
            go_simp
            with_reducible rfl
          rotate_left
          · simp only [Act.put, List.setIfInBounds_toArray, List.set_cons_zero, List.set_cons_succ, i64_w, i32_w]
            rfl
          refine pure_ (i := 1) (N := some 59) (v := ?_) (a' := ?_) (bq 11 3) rfl rfl (by kernel_rfl) (fun _ _ _ h => h) (Or.inl ⟨by rfl, ?_⟩) ?_ ?_
          rotate_left
          · intro w'
            go_simp
            with_reducible rfl
          rotate_left
          · simp only [Act.put, List.setIfInBounds_toArray, List.set_cons_zero, List.set_cons_succ, i64_w, i32_w]
            rfl
          refine pure_ (i := 2) (N := some 60) (v := ?_) (a' := ?_) (bq 11 7) rfl rfl (by kernel_rfl) (fun _ _ _ h => h) (Or.inl ⟨by rfl, ?_⟩) ?_ ?_
          rotate_left
          · intro w'
            go_simp
            with_reducible rfl
          rotate_left
          · simp only [Act.put, List.setIfInBounds_toArray, List.set_cons_zero, List.set_cons_succ, i64_w, i32_w]
            rfl
          refine pure_ (i := 3) (N := some 61) (v := ?_) (a' := ?_) (bq 11 15) rfl rfl (by kernel_rfl) (fun _ _ _ h => h) (Or.inl ⟨by rfl, ?_⟩) ?_ ?_
          rotate_left
          · intro w'
            go_simp
            with_reducible rfl
          rotate_left
          · simp only [Act.put, List.setIfInBounds_toArray, List.set_cons_zero, List.set_cons_succ, i64_w, i32_w]
            rfl
          refine take_ (i := 4) (N := some 62) (v := ?_) (a' := ?_) (bq 11 31) rfl rfl (by kernel_rfl) (fun _ _ _ h => h) (Or.inl ⟨by rfl, ?_⟩) hHeld ?_ ?_
          rotate_left
          · rintro w' ⟨s0, s1⟩
            have q0 := cell_of (j := 0) s0 rfl
            have q1 := cell_of (j := 1) s0 rfl
            have q2 := cell_of (j := 2) s0 rfl
            have q3 := cell_of (j := 3) s0 rfl
            have q4 := cell_of (j := 4) s0 rfl
            have q5 := cell_of (j := 5) s0 rfl
            go_simp
            with_reducible rfl
          rotate_left
          · simp only [Act.put, List.setIfInBounds_toArray, List.set_cons_zero, List.set_cons_succ, i64_w, i32_w]
            rfl
          refine take_ (i := 5) (N := some 63) (v := ?_) (a' := ?_) (bq 11 63) rfl rfl (by kernel_rfl) (fun _ _ _ h => h) (Or.inl ⟨by rfl, ?_⟩) hHeld ?_ ?_
          rotate_left
          · rintro w' ⟨s0, s1⟩
            have q0 := cell_of (j := 0) s1 rfl
            have q1 := cell_of (j := 1) s1 rfl
            have q2 := cell_of (j := 2) s1 rfl
            have q3 := cell_of (j := 3) s1 rfl
            go_simp
            with_reducible rfl
          rotate_left
          · simp only [Act.put, List.setIfInBounds_toArray, List.set_cons_zero, List.set_cons_succ, i64_w, i32_w]
            rfl
          refine one_ (i := 6) (N := some 64) (bq 11 127) rfl rfl (by kernel_rfl) (by decide) (fun K hK => ?_)
          refine value_ (w1 := ?_) (v := ?_) (by rfl) rfl ?_ ?_
          rotate_left 2
          · go_simp
            constructor
            · rfl
            · rfl
          have hba := below_alloc (Below.refl WD.heap.size WD) (.cells #[.int .u8 k, .slice A1 x.p.length c1, .slice A2 x.dest.length c2, .int .i64 wy] 59)
          refine hK.out _ _ ⟨(hba.block _ hgl5).trans HG5.out, (hba.block _ hcl5).trans I.out.now.1⟩ (fun hHeld => ?_)
          refine norm_ (a' := ?_) ?_ ?_
          rotate_left
          · show Act.put _ (some 64) _ = _
            simp only [Act.put, List.setIfInBounds_toArray, List.set_cons_zero, List.set_cons_succ, i64_w, i32_w]
            rfl
          refine one_ (i := 7) (N := some 65) (bq 11 255) rfl rfl (by kernel_rfl) (by decide) (fun K hK => ?_)
          refine Kd.R_append_step CallK (w0 := WD) 0 (by rfl) (.tmp 62) (.tmp 64) 57 59 (.agg #[.int .u8 0, .slice none 0 0, .slice none 0 0, .int .i64 0]) 64 rfl Tryd.underlying57 info_call rfl (by decide) (by omega) (.slice AT5 f.trace.length ct5) f.trace ⟨k, x.p, x.dest, wy⟩ [.int .u8 k, .slice A1 x.p.length c1, .slice A2 x.dest.length c2, .int .i64 wy] (fun j => O j ∨ w.heap.size ≤ j) (fun j => W5.heap.size ≤ j) rfl rfl ?aP ?aK ?aF ?aO ?aB ?aS ?aL ?_
          case aP => exact call_mkM _ 0 _ ⟨k, x.p, x.dest, wy⟩ (Kd.R_lower (Kd.R_mono (Kd.R_bound I.out.now.2.2.1) fun j hj => hj.2.1) (Nat.zero_le _)) (Kd.R_lower (Kd.R_mono (Kd.R_bound I.out.now.2.1) fun j hj => by have := hj.2.1; omega) (Nat.zero_le _))
          case aK => exact fun j hj => ⟨.inr (by omega), fun e => by
            have h := htl5 j (HTB5.out.symm.trans e.symm)
            have := hlt0 j h
            omega⟩
          case aF => exact fun j hj => .inr (by omega)
          case aO => exact Kd.R_mono HTR5.out fun j hj => hj.imp id fun h => h.1
          case aB => exact Below.refl _ _
          case aS => exact Nat.zero_le _
          case aL => omega
          intro v2 w2 ho2 hb2 hg2 hat2
          have HO2 := Lib.hid ho2
          have HB2' := Lib.hid hb2
          have hs2' := hg2.size
          have HOG := Lib.hid (Only.grown_of hg2)
          have hne2 : ∀ j, (O j → tb ≠ some j) → j < WD.heap.size → w2.heap[j]? = WD.heap[j]? := fun j hj hl => hg2.block j hl (fun e => by
            have e2 := HTB5.out.symm.trans e.symm
            exact hj (htl5 j e2) e2)
          have HG6 := Lib.hid ((hne2 g (fun h => absurd h hgO) hgl5).trans HG5.out)
          have HC6 := Lib.hid ((hne2 w1.heap.size (fun h => by have := hlt0 _ h; omega) hcl5).trans I.out.now.1)
          have HIV6 := Lib.hid (HIV5.out.mv fun j h1 h2 => hne2 j (fun _ => (hsep5 j h1 h2).2.2) (HFS9.out.lts j (hsep5 j h1 h2).1))
          have HFL6 := Lib.hid (HFL5.out.mv (hne2 m5 (fun _ => ?aM) hml5))
          case aM =>
            intro e
            obtain ⟨cells, hc⟩ := Kd.R_typed HTR5.out m5 (HTB5.out.trans e)
            obtain ⟨es, clock, hm, _⟩ := HFL5.out
            rw [hm] at hc
            cases hc
          have HX6 : Hid (∀ j, j < WD.heap.size → tb ≠ some j → w2.heap[j]? = WD.heap[j]?) := Lib.hid fun j hl h => hne2 j (fun _ => h) hl
          have HV2 : Hid (v2.ownBlock = tb ∨ ∃ b, v2.ownBlock = some b ∧ WD.heap.size ≤ b) := Lib.hid (hat2.imp (fun h => h.trans HTB5.out) id)
          obtain ⟨AT6, ct6, rfl⟩ := Kd.R_slice ho2
          clear ho2 hb2 hg2 hat2 hne2
          have hlen6 : (f.trace ++ [(⟨k, x.p, x.dest, wy⟩ : Call)]).length = f.trace.length + 1 := by simp
          rw [hlen6] at HO2 HV2
          refine hK.out _ _ ⟨HG6.out, HC6.out⟩ (fun hHeld => ?_)
          refine norm_ (a' := ?_) ?_ ?_
          rotate_left
          · show Act.put _ (some 65) _ = _
            simp only [Act.put, List.setIfInBounds_toArray, List.set_cons_zero, List.set_cons_succ, i64_w, i32_w]
            rfl
          refine pure_ (i := 8) (N := some 66) (v := ?_) (a' := ?_) (bq 11 511) rfl rfl (by kernel_rfl) (fun _ _ _ h => h) (Or.inl ⟨by rfl, ?_⟩) ?_ ?_
          rotate_left
          · intro w'
            go_simp
            with_reducible rfl
          rotate_left
          · simp only [Act.put, List.setIfInBounds_toArray, List.set_cons_zero, List.set_cons_succ, i64_w, i32_w]
            rfl
          refine pure_ (i := 9) (N := some 67) (v := ?_) (a' := ?_) (bq 11 1023) rfl rfl (by kernel_rfl) (fun _ _ _ h => h) (Or.inl ⟨by rfl, ?_⟩) ?_ ?_
          rotate_left
          · intro w'
            go_simp
            with_reducible rfl
          rotate_left
          · simp only [Act.put, List.setIfInBounds_toArray, List.set_cons_zero, List.set_cons_succ, i64_w, i32_w]
            rfl
          refine last_ (i := 10) (N := none) (bq 11 2047) rfl rfl (by kernel_rfl) (by decide) (fun K hK => ?_)
          have zg4 := cell_of (j := 4) HG6.out rfl
          have ug4 := unfr HG6.out 4
          refine skip_ (w1 := ?_) (by rfl) rfl ?_ ?_
          rotate_left
          · go_simp
            rfl
          refine hK.out _ _ ?_
          refine done_ (by kernel_rfl) ?_
          go_wp2_with fail
          go_ret
          have hcv : callV f k x = (⟨tr, f.trace ++ [⟨k, x.p, x.dest, wy⟩], f.faults⟩, tl, wy) := by
            unfold callV
            rw [if_pos ⟨HB1.out, HB2.out⟩]
            simp only [HRS.out, HDL.out]
          rw [hcv]
          have hz9 : (w2.setCell ⟨g, 4, none⟩ (.slice AT6 (f.trace.length + 1) ct6)).heap.size = w2.heap.size := by simp [World.setCell]
          have htb9 : ∀ j, tb = some j → j < w.heap.size := fun j e => hlt0 j (htl5 j e)
          refine ⟨rfl, ⟨_, HV2.out.imp id (fun ⟨b, e, h⟩ => ⟨b, e, by omega⟩), ?_⟩, ?_, ?_⟩
          · refine ⟨A5, c5, .slice AT6 (f.trace.length + 1) ct6, m5, lo5, hi5, ?_, hle5, HIV6.out.mv fun k h1 h2 => Below.heap_setCell _ _ _ _ (hsep5 k h1 h2).2.1, fun k h1 h2 => ⟨(hsep5 k h1 h2).1.imp id fun h => ⟨h.1, by omega⟩, (hsep5 k h1 h2).2.1, fun e => ?_⟩, ?_, rfl, HFL6.out.mv (Below.heap_setCell _ _ _ _ hmg5), hOm5.imp id fun h => ⟨h.1, by omega⟩, fun k h => h.elim (fun h => by have := hlt0 k h; omega) fun h => h.2⟩
            · have h := blk_put (cs := #[.string tr.name, .int .u8 tr.kind, .string tr.data, .slice A5 tr.files.length c5, .slice AT5 f.trace.length ct5, .map (some m5)]) HG6.out 4 (.slice AT6 (f.trace.length + 1) ct6) rfl
              exact h
            · rcases HV2.out with h | ⟨b, h, hb⟩
              · exact (hsep5 k h1 h2).2.2 (h.symm.trans e)
              · have h9 := HFS9.out.lts k (hsep5 k h1 h2).1
                rw [h] at e
                injection e with e
                omega
            · exact Kd.R_mono (Kd.R_bound (Kd.R_step (Kd.R_types HO2.out HG6.out (by decide)) fun k hk _ => Below.heap_setCell _ _ _ _ hk.2)) fun k hk => hk.1.1.imp id fun h => ⟨h, hk.2.2.1⟩
          · exact (Below.heap_setCell _ _ _ _ hrg).trans ((HX6.out r (by omega) (fun e => hrO (htl5 r e))).trans I.out.now.2.2.2.2.1)
          · exact ((HO5.out.trans (Only.of_belowV hbw5 fun _ => False) (K := fun k => k = g ∨ k = r ∨ tb = some k) (fun _ _ h => h.elim .inl fun h => .inr (.inl h)) (fun _ _ h => h.elim)).trans HOG.out (fun _ _ h => h) (fun _ _ h => .inr (.inr (HTB5.out.symm.trans h)))).trans (Only.setCell _ _ _) (fun _ _ h => h) (fun _ _ h => .inl h)
      clear hK1
      cases bf
      · skip
        go_wp2_with fail
        refine (kinds_calls W3).mono ?_
        rintro e w4 ⟨rfl, HKD, hq4⟩
        replace I := Lib.hid (Hd.mv I.out hq4)
        have hbw4 := I.out.now.2.2.2.2.2
        have HFS4 := Lib.hid (HFS0.out.below hbw4)
        have hs4 := hbw4.size
        have HRQ4 := Lib.hid I.out.now.2.2.2.1
        have HKL := Lib.hid (lookup_kinds w4 _ k HKD h1 h5)
        rw [kindF_N] at HKL
        clear HKD
        have HOP := Lib.hid (show opR k f.tree x = (tr, tl, wy) from (if_neg (of_decide_eq_false HBF.out)).symm.trans HRS.out)
        have hk5 : k = 1 ∨ k = 2 ∨ k = 3 ∨ k = 4 ∨ k = 5 := by omega
        rcases hk5 with hk | hk | hk | hk | hk
        · skip
          have HKN := Lib.hid (show kindN k = 73 by rw [hk]; rfl)
          clear hk
          have hlk := HKL.out
          rw [HKN.out] at hlk
          go_wp2_with fail
          have hop := op_fs k h1 h5 w4 g r O tb f x Ap cp Ad cd HFS4.out HRQ4.out hrg hrO hbt I.out.now.2.2.1 hcp hps I.out.now.2.1 hcd hpt hdb
          rw [HKN.out, HOP.out] at hop
          refine hop.mono ?_
          rintro e w5 ⟨rfl, hfs5, hr5, ho5⟩
          clear hlk hop
          have HA5 := Lib.hid (show FsAt w5 g (fun k => O k ∨ w.heap.size ≤ k ∧ k < w5.heap.size) tb { f with tree := tr } ∧ w5.heap[r]? = some (.cells (reqCells x Ap cp Ad cd tl) 94 (0, 0)) ∧ Only (fun k => k = g ∨ k = r) w w5 from ⟨hfs5.mono (O' := fun k => O k ∨ w.heap.size ≤ k ∧ k < w5.heap.size) (fun k h => h.imp id fun h => ⟨Nat.le_trans hs4 h.1, h.2⟩) (fun k h => h.elim (fun h => Nat.lt_of_lt_of_le (HFS0.out.lts k h) (Nat.le_trans hs4 ho5.size)) fun h => h.2), hr5, (Only.of_belowV hbw4 (fun _ => False)).trans ho5 (K := fun k => k = g ∨ k = r) (fun _ _ h => h.elim) (fun _ _ h => h)⟩)
          clear hfs5 hr5 ho5
          go_wp2_with fail
          exact HT.out _ w5 ⟨⟨_, _, _, _, _, _, _, _, _, _, _, _, _, _, _, _, _, _, _, _, _, _, _, _, _, _, _, _, _, _, _, _, _, _, _, _, _, _, _, _, _, _, _, _, _, _, _, _, _, _, _, _, _, _, _, _, _, _, _, _, _, _, _, _, _, rfl⟩, HA5.out⟩
        · skip
          have HKN := Lib.hid (show kindN k = 74 by rw [hk]; rfl)
          clear hk
          have hlk := HKL.out
          rw [HKN.out] at hlk
          go_wp2_with fail
          have hop := op_fs k h1 h5 w4 g r O tb f x Ap cp Ad cd HFS4.out HRQ4.out hrg hrO hbt I.out.now.2.2.1 hcp hps I.out.now.2.1 hcd hpt hdb
          rw [HKN.out, HOP.out] at hop
          refine hop.mono ?_
          rintro e w5 ⟨rfl, hfs5, hr5, ho5⟩
          clear hlk hop
          have HA5 := Lib.hid (show FsAt w5 g (fun k => O k ∨ w.heap.size ≤ k ∧ k < w5.heap.size) tb { f with tree := tr } ∧ w5.heap[r]? = some (.cells (reqCells x Ap cp Ad cd tl) 94 (0, 0)) ∧ Only (fun k => k = g ∨ k = r) w w5 from ⟨hfs5.mono (O' := fun k => O k ∨ w.heap.size ≤ k ∧ k < w5.heap.size) (fun k h => h.imp id fun h => ⟨Nat.le_trans hs4 h.1, h.2⟩) (fun k h => h.elim (fun h => Nat.lt_of_lt_of_le (HFS0.out.lts k h) (Nat.le_trans hs4 ho5.size)) fun h => h.2), hr5, (Only.of_belowV hbw4 (fun _ => False)).trans ho5 (K := fun k => k = g ∨ k = r) (fun _ _ h => h.elim) (fun _ _ h => h)⟩)
          clear hfs5 hr5 ho5
          go_wp2_with fail
          exact HT.out _ w5 ⟨⟨_, _, _, _, _, _, _, _, _, _, _, _, _, _, _, _, _, _, _, _, _, _, _, _, _, _, _, _, _, _, _, _, _, _, _, _, _, _, _, _, _, _, _, _, _, _, _, _, _, _, _, _, _, _, _, _, _, _, _, _, _, _, _, _, _, rfl⟩, HA5.out⟩
        · skip
          have HKN := Lib.hid (show kindN k = 75 by rw [hk]; rfl)
          clear hk
          have hlk := HKL.out
          rw [HKN.out] at hlk
          go_wp2_with fail
          have hop := op_fs k h1 h5 w4 g r O tb f x Ap cp Ad cd HFS4.out HRQ4.out hrg hrO hbt I.out.now.2.2.1 hcp hps I.out.now.2.1 hcd hpt hdb
          rw [HKN.out, HOP.out] at hop
          refine hop.mono ?_
          rintro e w5 ⟨rfl, hfs5, hr5, ho5⟩
          clear hlk hop
          have HA5 := Lib.hid (show FsAt w5 g (fun k => O k ∨ w.heap.size ≤ k ∧ k < w5.heap.size) tb { f with tree := tr } ∧ w5.heap[r]? = some (.cells (reqCells x Ap cp Ad cd tl) 94 (0, 0)) ∧ Only (fun k => k = g ∨ k = r) w w5 from ⟨hfs5.mono (O' := fun k => O k ∨ w.heap.size ≤ k ∧ k < w5.heap.size) (fun k h => h.imp id fun h => ⟨Nat.le_trans hs4 h.1, h.2⟩) (fun k h => h.elim (fun h => Nat.lt_of_lt_of_le (HFS0.out.lts k h) (Nat.le_trans hs4 ho5.size)) fun h => h.2), hr5, (Only.of_belowV hbw4 (fun _ => False)).trans ho5 (K := fun k => k = g ∨ k = r) (fun _ _ h => h.elim) (fun _ _ h => h)⟩)
          clear hfs5 hr5 ho5
          go_wp2_with fail
          exact HT.out _ w5 ⟨⟨_, _, _, _, _, _, _, _, _, _, _, _, _, _, _, _, _, _, _, _, _, _, _, _, _, _, _, _, _, _, _, _, _, _, _, _, _, _, _, _, _, _, _, _, _, _, _, _, _, _, _, _, _, _, _, _, _, _, _, _, _, _, _, _, _, rfl⟩, HA5.out⟩
        · skip
          have HKN := Lib.hid (show kindN k = 76 by rw [hk]; rfl)
          clear hk
          have hlk := HKL.out
          rw [HKN.out] at hlk
          go_wp2_with fail
          have hop := op_fs k h1 h5 w4 g r O tb f x Ap cp Ad cd HFS4.out HRQ4.out hrg hrO hbt I.out.now.2.2.1 hcp hps I.out.now.2.1 hcd hpt hdb
          rw [HKN.out, HOP.out] at hop
          refine hop.mono ?_
          rintro e w5 ⟨rfl, hfs5, hr5, ho5⟩
          clear hlk hop
          have HA5 := Lib.hid (show FsAt w5 g (fun k => O k ∨ w.heap.size ≤ k ∧ k < w5.heap.size) tb { f with tree := tr } ∧ w5.heap[r]? = some (.cells (reqCells x Ap cp Ad cd tl) 94 (0, 0)) ∧ Only (fun k => k = g ∨ k = r) w w5 from ⟨hfs5.mono (O' := fun k => O k ∨ w.heap.size ≤ k ∧ k < w5.heap.size) (fun k h => h.imp id fun h => ⟨Nat.le_trans hs4 h.1, h.2⟩) (fun k h => h.elim (fun h => Nat.lt_of_lt_of_le (HFS0.out.lts k h) (Nat.le_trans hs4 ho5.size)) fun h => h.2), hr5, (Only.of_belowV hbw4 (fun _ => False)).trans ho5 (K := fun k => k = g ∨ k = r) (fun _ _ h => h.elim) (fun _ _ h => h)⟩)
          clear hfs5 hr5 ho5
          go_wp2_with fail
          exact HT.out _ w5 ⟨⟨_, _, _, _, _, _, _, _, _, _, _, _, _, _, _, _, _, _, _, _, _, _, _, _, _, _, _, _, _, _, _, _, _, _, _, _, _, _, _, _, _, _, _, _, _, _, _, _, _, _, _, _, _, _, _, _, _, _, _, _, _, _, _, _, _, rfl⟩, HA5.out⟩
        · skip
          have HKN := Lib.hid (show kindN k = 77 by rw [hk]; rfl)
          clear hk
          have hlk := HKL.out
          rw [HKN.out] at hlk
          go_wp2_with fail
          have hop := op_fs k h1 h5 w4 g r O tb f x Ap cp Ad cd HFS4.out HRQ4.out hrg hrO hbt I.out.now.2.2.1 hcp hps I.out.now.2.1 hcd hpt hdb
          rw [HKN.out, HOP.out] at hop
          refine hop.mono ?_
          rintro e w5 ⟨rfl, hfs5, hr5, ho5⟩
          clear hlk hop
          have HA5 := Lib.hid (show FsAt w5 g (fun k => O k ∨ w.heap.size ≤ k ∧ k < w5.heap.size) tb { f with tree := tr } ∧ w5.heap[r]? = some (.cells (reqCells x Ap cp Ad cd tl) 94 (0, 0)) ∧ Only (fun k => k = g ∨ k = r) w w5 from ⟨hfs5.mono (O' := fun k => O k ∨ w.heap.size ≤ k ∧ k < w5.heap.size) (fun k h => h.imp id fun h => ⟨Nat.le_trans hs4 h.1, h.2⟩) (fun k h => h.elim (fun h => Nat.lt_of_lt_of_le (HFS0.out.lts k h) (Nat.le_trans hs4 ho5.size)) fun h => h.2), hr5, (Only.of_belowV hbw4 (fun _ => False)).trans ho5 (K := fun k => k = g ∨ k = r) (fun _ _ h => h.elim) (fun _ _ h => h)⟩)
          clear hfs5 hr5 ho5
          go_wp2_with fail
          exact HT.out _ w5 ⟨⟨_, _, _, _, _, _, _, _, _, _, _, _, _, _, _, _, _, _, _, _, _, _, _, _, _, _, _, _, _, _, _, _, _, _, _, _, _, _, _, _, _, _, _, _, _, _, _, _, _, _, _, _, _, _, _, _, _, _, _, _, _, _, _, _, _, rfl⟩, HA5.out⟩
      · skip
        have HRS2 := (if_pos (of_decide_eq_true HBF.out)).symm.trans HRS.out
        obtain ⟨rfl, rfl, rfl⟩ : f.tree = tr ∧ told0 x.data = tl ∧ (42 : Int) = wy := by simpa using HRS2
        have HA5 := Lib.hid (show FsAt W3 g (fun k => O k ∨ w.heap.size ≤ k ∧ k < W3.heap.size) tb { f with tree := f.tree } ∧ W3.heap[r]? = some (.cells (reqCells x Ap cp Ad cd (told0 x.data)) 94 (0, 0)) ∧ Only (fun k => k = g ∨ k = r) w W3 from ⟨HFS3.out.mono (O' := fun k => O k ∨ w.heap.size ≤ k ∧ k < W3.heap.size) (fun k h => .inl h) (fun k h => h.elim (fun h => HFS3.out.lts k h) fun h => h.2), HRQ3.out, Only.of_belowV hbw3 (fun k => k = g ∨ k = r)⟩)
        clear HRS2
        go_wp2_with fail
        exact HT.out _ W3 ⟨⟨_, _, _, _, _, _, _, _, _, _, _, _, _, _, _, _, _, _, _, _, _, _, _, _, _, _, _, _, _, _, _, _, _, _, _, _, _, _, _, _, _, _, _, _, _, _, _, _, _, _, _, _, _, _, _, _, _, _, _, _, _, _, _, _, _, rfl⟩, HA5.out⟩
end Go.Proofs.YthlcjjhfkldmhaaDoor.G
