/- paths.Relative; append of a row of another named type. -/
import Derived.Test.YtdhchmonmbppmaaDoorPaths
namespace Go.Proofs.YtdhchmonmbppmaaDoor.G
open Go.RowKit Go.Lib Go.Proofs.YtdhchmonmbppmaaDoorW.PrintWords Go.Proofs.YtdhchmonmbppmaaDoorW.PrintLast
set_option linter.unusedVariables false

theorem append_types {P : Program} {W : World} {t u e e' ty : TypeId} {args : Array Value} (ht : P.underlying t = some (.slice e)) (hu : P.underlying u = some (.slice e')) :
    (Builtin.append_ #[t, u] ty args).run P W = (Builtin.append_ #[t, t] ty args).run P W := by
  unfold Builtin.append_
  simp only [List.getElem?_toArray, List.getElem?_cons_zero, List.getElem?_cons_succ]
  split
  · rename_i h
    simp only [Prod.mk.injEq, Option.some.injEq] at h
    obtain ⟨rfl, h1, h2⟩ := h
    simp only [Sem.run_bind, run_underlying ht, Result.andThen_ok]
    split
    · simp only [Sem.run_bind, run_underlying ht, run_underlying hu, Result.andThen_ok]
    · rfl
  · rfl
/-- append's run, from a law about its step. -/
theorem append_run {P : Program} {W : World} {t ty : TypeId} {o : Oper} {v vx : Value} {R : Value → World → Prop} (a : Act) (ha : a.tmps = #[undef]) (hgd : o.guard = none) (hd : o.dst = some 0)
    (ho : o.op = .call { callee := .builtin .append, args := #[.const v, .const vx], argTypes := #[t, t] }) (hty : o.type = ty)
    (h : wpList P #[] (fun e a' w1 => e = .normal ∧ ∃ v1, a' = a.put (some 0) v1 ∧ R v1 w1) [o] a W) :
    ∃ v1 w1, (Builtin.append_ #[t, t] ty #[v, vx]).run P W = .ok v1 w1 ∧ R v1 w1 := by
  have hlet : ¬ LetsOut (fun e a' w1 => e = Exit.normal ∧ ∃ v1, a' = a.put (some 0) v1 ∧ R v1 w1) := by
    rintro ⟨a', w', h1, _⟩
    cases h1
  simp only [wpList, Region.wanted, hgd, if_true] at h
  rcases h with h | h
  · unfold Oper.wp execOp at h
    simp only [ho, hty, resolve, invoke, builtin, Sem.run_bind, Sem.run_pure, Result.andThen_ok, List.map_toArray, List.map_cons, List.map_nil, Act.eval] at h
    generalize (Builtin.append_ #[t, t] ty #[v, vx]).run P W = r at h
    cases r with
    | ok v1 w1 =>
      simp only [Result.andThen_ok, Oper.upon, hd] at h ⊢
      obtain ⟨_, v2, h1, h2⟩ := h
      have := congrArg Act.tmps h1
      simp [Act.put, ha] at this
      subst this
      exact ⟨_, _, rfl, h2⟩
    | halt st w1 =>
      cases st <;> simp [Result.andThen, Oper.upon] at h
  · exact absurd h.2 hlet
theorem append_row2 {P : Program} {ops : Array Oper} {rest : List Oper} {o : Oper} {a : Act} {Q : Exit → Act → World → Prop} {α : Type} (enc : α → Value) (d : α) {h1 : ∀ x : α, (enc x).oneCell' = true} {w0 W : World} (base : Nat) (hgd : o.guard = none) (s x : Operand) (t u e e' : TypeId) (z : Value) (bytes : Nat)
    (ho : o.op = .call { callee := .builtin .append, args := #[s, x], argTypes := #[t, u] })
    (ht : P.underlying t = some (.slice e)) (hu : P.underlying u = some (.slice e')) (hinfo : (P.info? e).map (fun i => (i.zero, i.size, i.bytes)) = some (some z, 1, bytes)) (hz : z.cells.size = 1) (hb0 : 0 < bytes)
    (v : Value) (xs ys : List α) (A : Option Addr) (m c : Nat) (ok : Nat → Prop) (hs : a.eval s = v) (hx : a.eval x = .slice A m c) (hfresh : ∀ k, W.heap.size ≤ k → ok k)
    (HO : (Kd.scalar enc h1).R e W base ok v xs) (HR : (Kd.scalar enc h1).C W A m ys) (HB : Below base w0 W) (hbase : base ≤ W.heap.size) (hl : (xs.length + m) * bytes ≤ 140737488355328)
    (h : ∀ v1 w1, (Kd.scalar enc h1).R e w1 base ok v1 (xs ++ ys) → Below base w0 w1 → W.grownBy w1 v.ownBlock → (v1.ownBlock = v.ownBlock ∨ ∃ b, v1.ownBlock = some b ∧ W.heap.size ≤ b) → wpList P ops Q rest (a.put o.dst v1) w1) :
    wpList P ops Q (o :: rest) a W := by
  obtain ⟨v1, w1, hr, h2, h3, h4, h5⟩ := append_run (P := P) (W := W) (t := t) (ty := o.type) (v := v) (vx := .slice A m c)
    (R := fun v1 w1 => (Kd.scalar enc h1).R e w1 base ok v1 (xs ++ ys) ∧ Below base w0 w1 ∧ W.grownBy w1 v.ownBlock ∧ (v1.ownBlock = v.ownBlock ∨ ∃ b, v1.ownBlock = some b ∧ W.heap.size ≤ b))
    (o := { dst := some 0, op := .call { callee := .builtin .append, args := #[.const v, .const (.slice A m c)], argTypes := #[t, t] }, type := o.type, pos := "", after := #[], guard := none })
    ⟨#[undef], []⟩ rfl rfl rfl rfl rfl
    (Kd.R_append_row enc d base rfl (.const v) (.const (.slice A m c)) t e z bytes rfl ht hinfo hz hb0 v xs ys A m c ok rfl rfl hfresh HO HR HB hbase hl fun v1 w1 a1 a2 a3 a4 => ⟨rfl, v1, rfl, a1, a2, a3, a4⟩)
  refine wpList_plain hgd fun K hK => ?_
  unfold Oper.wp execOp
  simp only [ho, resolve, invoke, builtin, Sem.run_bind, Sem.run_pure, Result.andThen_ok, List.map_toArray, List.map_cons, List.map_nil, hs, hx, append_types ht hu, hr]
  exact hK _ _ (h v1 w1 h2 h3 h4 h5)

/-! ### Relative -/
def dots : ByteArray := ⟨#[46, 46]⟩
def relP (a p : List ByteArray) : List ByteArray := List.replicate (a.length - both a p) dots ++ p.drop (both a p)
def relR (a p : List ByteArray) : List UInt8 × Int :=
  if rightB a && rightB p then (if relP a p = [] then ([46], 0) else if (joinL (relP a p) [47]).length ≤ 1024 then (joinL (relP a p) [47], 0) else ([], 4)) else ([], 20)
theorem rightB_sum {l : List ByteArray} (h : rightB l = true) : sumP l ≤ 1024 := by
  unfold rightB sizeP at h
  simp at h
  omega
theorem sumP_len (l : List ByteArray) : (l.length : Int) ≤ sumP l := by
  induction l with
  | nil => simp [sumP]
  | cons s l ih => simp only [sumP, List.map_cons, List.sum_cons, List.length_cons] at ih ⊢; omega
theorem sumP_append (a b : List ByteArray) : sumP (a ++ b) = sumP a + sumP b := by simp [sumP, List.sum_append]
theorem sumP_drop_le (l : List ByteArray) (k : Nat) : sumP (l.drop k) ≤ sumP l := by
  have h := congrArg sumP (List.take_append_drop k l)
  rw [sumP_append] at h
  have := sumP_nonneg (l.take k)
  omega
theorem sumP_dots (n : Nat) : sumP (List.replicate n dots) = 3 * n := by
  induction n with
  | zero => simp [sumP]
  | succ n ih =>
    rw [List.replicate_succ]
    have : sumP (dots :: List.replicate n dots) = 1 + (dots.size : Int) + sumP (List.replicate n dots) := by simp [sumP]
    rw [this, ih]
    have : (dots.size : Int) = 2 := rfl
    omega
theorem relP_sum {a p : List ByteArray} (h1 : rightB a = true) (h2 : rightB p = true) : sumP (relP a p) ≤ 4096 := by
  have s1 := rightB_sum h1
  have s2 := rightB_sum h2
  have l1 := sumP_len a
  have d := sumP_drop_le p (both a p)
  unfold relP
  rw [sumP_append, sumP_dots]
  omega

set_option maxHeartbeats 4000000 in
theorem rel_no (A : Option Addr) (c : Nat) (a : List ByteArray) (B : Option Addr) (d : Nat) (p : List ByteArray) (w : World) (hr : Kd.C Kd.string w A a.length a) (hc : a.length ≤ c) (hl : a.length ≤ 4398046511104) (hs : sumP a ≤ 140737488355328)
    (hr2 : Kd.C Kd.string w B p.length p) (hd : p.length ≤ d) (hl2 : p.length ≤ 4398046511104) (hs2 : sumP p ≤ 140737488355328) (hR : (rightB a && rightB p) = false) :
    Calls Tryd.prog 18 #[.slice A a.length c, .slice B p.length d] w fun e w' => e = .returned (.tuple #[.string ⟨#[]⟩, .int .i64 20]) ∧ Below w.heap.size w w' := by
  have H1 := Lib.hid (fun W h => right_calls A c a W h hc (by omega) (by omega))
  have H2 := Lib.hid (fun W h => right_calls B d p W h hd (by omega) (by omega))
  have HR := Lib.hid hr
  have HR2 := Lib.hid hr2
  clear hr hr2 hs hs2
  cases h1 : rightB a
  · rw [h1] at H1
    clear hR h1 H2
    go_enter Tryd.func18, Tryd.ntmps18
    go_wp2_with (go_at_call 16; refine (H1.out _ HR.out).mono ?_; rintro e w1 ⟨rfl, hb⟩)
    go_ret2
    exact ⟨rfl, hb⟩
  · rw [h1] at H1 hR
    have h2 : rightB p = false := by simpa using hR
    rw [h2] at H2
    clear hR h1 h2
    go_enter Tryd.func18, Tryd.ntmps18
    go_wp2_with fail
    refine (H1.out _ HR.out).mono ?_
    rintro e w1 ⟨rfl, hb⟩
    go_wp2_with fail
    refine (H2.out _ (Kd.C_below HR2.out hb)).mono ?_
    rintro e w2 ⟨rfl, hb2⟩
    go_wp2_with fail
    go_ret2
    exact ⟨rfl, bstep hb hb.size hb2⟩

set_option maxHeartbeats 8000000 in
set_option maxRecDepth 100000 in
theorem rel_yes (A : Option Addr) (c : Nat) (a : List ByteArray) (B : Option Addr) (d : Nat) (p : List ByteArray) (w : World) (hr : Kd.C Kd.string w A a.length a) (hc : a.length ≤ c)
    (hr2 : Kd.C Kd.string w B p.length p) (hd : p.length ≤ d) (h1 : rightB a = true) (h2 : rightB p = true) (R : List UInt8 × Int)
    (hR : R = if relP a p = [] then ([46], 0) else if (joinL (relP a p) [47]).length ≤ 1024 then (joinL (relP a p) [47], 0) else ([], 4)) :
    Calls Tryd.prog 18 #[.slice A a.length c, .slice B p.length d] w fun e w' => e = .returned (.tuple #[.string ⟨R.1.toArray⟩, .int .i64 R.2]) ∧ Below w.heap.size w w' := by
  have s1 := rightB_sum h1
  have s2 := rightB_sum h2
  have hs := relP_sum h1 h2
  have la := sumP_len a
  have lp := sumP_len p
  have H1 := Lib.hid (fun W h => right_calls A c a W h hc (by omega) (by omega))
  have H2 := Lib.hid (fun W h => right_calls B d p W h hd (by omega) (by omega))
  have H3 := Lib.hid (fun W h h' => alike_calls A c a B d p W h hc h' hd (by omega))
  rw [h1] at H1
  rw [h2] at H2
  have HR := Lib.hid hr
  have HR2 := Lib.hid hr2
  have hk1 := both_le_left a p
  have hk2 := both_le_right a p
  have HP := Lib.hid (show relP a p = List.replicate (a.length - both a p) dots ++ p.drop (both a p) from rfl)
  have HQ := Lib.hid hR
  clear hr hR h1 h2
  generalize relP a p = L at *
  generalize both a p = k at *
  have lL := sumP_len L
  have hjl := joinL_len (l := L)
  have H4 := Lib.hid (fun A c W h hc => strJoin_calls A c L ⟨#[47]⟩ W h hc (by omega) (by show (joinL L [47]).length ≤ _; omega))
  have H5 := Lib.hid (show ((L.length : Int) == 0) = decide (L = []) by
    rw [Bool.eq_iff_iff, beq_iff_eq, decide_eq_true_iff, ← List.length_eq_zero_iff]; omega)
  obtain ⟨i9, hi9, hz9, hz1, hz2⟩ := info_parts info_str
  obtain ⟨A', cutA, readA, lenA⟩ := print_drop_of (P := Tryd.prog) Value.string ByteArray.empty 23 9 .i64 Tryd.underlying23 hi9 hz1 A c a (k : Int) (by omega) (by omega) hc
  obtain ⟨B', cutB, readB, lenB⟩ := print_drop_of (P := Tryd.prog) Value.string ByteArray.empty 23 9 .i64 Tryd.underlying23 hi9 hz1 B d p (k : Int) (by omega) (by omega) hd
  simp only [Int.toNat_natCast] at cutA readA lenA cutB readB lenB
  have hla : (a.drop k).length = a.length - k := List.length_drop
  rw [hla] at cutA
  have RC : Hid (Kd.C Kd.string w B' (p.length - k) (p.drop k)) := Lib.hid (by have := Kd.C_of_reads (h1 := fun _ => rfl) (readB _ (Kd.reads_of_C (d := ByteArray.empty) hr2)); rw [List.length_drop] at this; exact this)
  have HLA := Lib.hid hla
  clear hr2 readA readB hla hi9 hz9 hz1 hz2 lenA
  go_enter Tryd.func18, Tryd.ntmps18
  go_wp2_with fail
  refine (H1.out _ HR.out).mono ?_
  rintro e w1 ⟨rfl, hb⟩
  go_wp2_with fail
  refine (H2.out _ (Kd.C_below HR2.out hb)).mono ?_
  rintro e w2 ⟨rfl, hb2⟩
  have hb3 := bstep hb hb.size hb2
  clear hb hb2
  go_wp2_with fail
  refine (H3.out _ (Kd.C_below HR.out hb3) (Kd.C_below HR2.out hb3)).mono ?_
  rintro e w3 ⟨rfl, n3, rfl⟩
  go_wp2_with fail
  go_loopw [7, 24] (fun v i wr => ∃ j : Nat, j ≤ a.length - k ∧ i = .int .i64 j ∧ Hid (Kd.R Kd.string 9 wr w.heap.size (fun _ => True) v (List.replicate j dots)) ∧ Below w.heap.size w wr) (fun _ i _ => a.length - k - (RowKit.intOf i).toNat)
  case atStart => exact ⟨0, by omega, rfl, Lib.hid (Kd.R_nil _ _ _ _ _), bdrewN hb3 n3⟩
  case round =>
    obtain ⟨j, hj, rfl, HO, hb⟩ := hrel
    have hsz := hb.size
    have HT := Lib.hid (show List.replicate (j + 1) dots = List.replicate j dots ++ [dots] from List.replicate_succ')
    have HL := Lib.hid (show (List.replicate j dots).length = j from List.length_replicate)
    by_cases hlt : j < a.length - k
    · go_wp2_with (at_builtin; refine Kd.R_append Kd.string (w0 := w) w.heap.size rfl (.tmp 26) (.tmp 27) 22 9 (.string ⟨#[]⟩) 16 rfl Tryd.underlying22 info_str rfl (by decide) (by decide) _ (List.replicate j dots) dots [.string dots] (fun _ => True) (fun _ => False) rfl rfl ?aP (fun _ hk => hk.elim) ?aF ?aO ?aB ?aS ?aL ?_; (case aP => exact rfl); (case aF => exact (fun _ _ => trivial)); (case aO => exact HO.out); (case aB => exact hb); (case aS => exact hsz); (case aL => rw [HL.out]; omega); intro v1 w4 ho hb4 hg hat)
      go_roundw
      case rel => exact ⟨j + 1, by omega, by go_num, Lib.hid (by rw [HT.out]; exact ho), hb4⟩
      case measure => simp [RowKit.intOf]; omega
    · obtain rfl : j = a.length - k := by omega
      go_wp2_with (at_builtin; refine append_row2 Value.string ByteArray.empty (h1 := fun _ => rfl) (w0 := w) w.heap.size rfl (.tmp 30) (.tmp 33) 22 23 9 9 (.string ⟨#[]⟩) 16 rfl Tryd.underlying22 Tryd.underlying23 info_str rfl (by decide) _ (List.replicate (a.length - k) dots) (p.drop k) B' (p.length - k) (d - k) (fun _ => True) rfl rfl (fun _ _ => trivial) ?aO ?aR ?aB ?aS ?aL ?_; (case aO => exact HO.out); (case aR => exact Kd.C_below RC.out hb); (case aB => exact hb); (case aS => exact hsz); (case aL => rw [HL.out]; omega); intro v1 w4 ho hb4 hg hat; rw [← HP.out] at ho; obtain ⟨A4, c4, hv1, hc4, hC⟩ := Kd.R_reads ho; rw [hv1]; have HC4 := Lib.hid hC; clear hv1 hg hat ho hC)
      · rename_i hz
        go_ret2
        refine ⟨?_, hb4⟩
        have hz2 := (H5.out.symm.trans hz)
        rw [HQ.out, if_pos (of_decide_eq_true hz2)]
        rfl
      · rename_i hz _ _ _ _
        have hz2 := of_decide_eq_false (H5.out.symm.trans hz)
        have HQ2 := HQ.out
        rw [if_neg hz2] at HQ2
        clear HQ hz2 H5
        refine (H4.out _ _ _ HC4.out hc4).mono ?_
        rintro e w5 ⟨rfl, hb5⟩
        have hb6 := bstep hb4 hb4.size hb5
        have HJ := Lib.hid (show (⟨(joinL L [47]).toArray⟩ : ByteArray).size = (joinL L [47]).length by simp [ByteArray.size])
        change Hid (_ = _) at HJ
        by_cases hlen : (joinL L [47]).length ≤ 1024
        · rw [if_pos hlen] at HQ2
          have HQ3 := Lib.hid HQ2
          clear HQ2 hb5 hb4
          have hz3 : (⟨(joinL L [47]).toArray⟩ : ByteArray).size ≤ 1024 := by rw [HJ.out]; exact hlen
          clear HJ H4
          generalize joinL L [47] = J at *
          go_wp2_with fail
          go_ret2
          refine ⟨?_, hb6⟩
          rw [HQ3.out]
          rfl
        · rw [if_neg hlen] at HQ2
          have HQ3 := Lib.hid HQ2
          clear HQ2 hb5 hb4
          have hz3 : ¬ (⟨(joinL L [47]).toArray⟩ : ByteArray).size ≤ 1024 := by rw [HJ.out]; exact hlen
          clear HJ H4
          generalize joinL L [47] = J at *
          go_wp2_with fail
          go_ret2
          refine ⟨?_, hb6⟩
          rw [HQ3.out]
          rfl
theorem rel_calls (A : Option Addr) (c : Nat) (a : List ByteArray) (B : Option Addr) (d : Nat) (p : List ByteArray) (w : World) (hr : Kd.C Kd.string w A a.length a) (hc : a.length ≤ c) (hl : a.length ≤ 4398046511104) (hs : sumP a ≤ 140737488355328)
    (hr2 : Kd.C Kd.string w B p.length p) (hd : p.length ≤ d) (hl2 : p.length ≤ 4398046511104) (hs2 : sumP p ≤ 140737488355328) :
    Calls Tryd.prog 18 #[.slice A a.length c, .slice B p.length d] w fun e w' => e = .returned (.tuple #[.string ⟨(relR a p).1.toArray⟩, .int .i64 (relR a p).2]) ∧ Below w.heap.size w w' := by
  cases hR : rightB a && rightB p
  · have h := rel_no A c a B d p w hr hc hl hs hr2 hd hl2 hs2 hR
    rw [relR, hR]
    exact h
  · have h := hR
    rw [Bool.and_eq_true] at h
    exact rel_yes A c a B d p w hr hc hr2 hd h.1 h.2 _ (by rw [relR, hR]; rfl)
end Go.Proofs.YtdhchmonmbppmaaDoor.G
