/- What trees.Read leans on: plain. -/
import Derived.Test.YtdnhjnlhmfajnaaDoorTSprout
namespace Go.Proofs.YtdnhjnlhmfajnaaDoor.G
open Go.RowKit Go.Lib Go.Proofs.YtdnhjnlhmfajnaaDoorW.PrintWords Go.Proofs.YtdnhjnlhmfajnaaDoorW.PrintLast
set_option linter.unusedVariables false
set_option linter.unusedSimpArgs false

theorem results_cc {P : Program} {fn : Func} {p u q : Tmp} {ty ty2 : TypeId} (h : fn.results = #[.cell p ty, .tmp u, .cell q ty2]) (tmps : Array Value) (w : World) (g g2 : Nat) (t t2 : TypeId) (cs cs2 : Array Value) (fr fr2 : Nat × Nat) (d d2 : TypeDesc)
    (hp : tmps.getD p undef = .pointer (some ⟨g, 0, none⟩)) (hq : tmps.getD q undef = .pointer (some ⟨g2, 0, none⟩)) (hg : w.heap[g]? = some (.cells cs t fr)) (hg2 : w.heap[g2]? = some (.cells cs2 t2 fr2))
    (hu : P.underlying ty = some d) (hu2 : P.underlying ty2 = some d2) (hd : (match d with | .struct _ | .array _ _ => true | _ => false) = true) (hd2 : (match d2 with | .struct _ | .array _ _ => true | _ => false) = true) (hi : (P.info? ty).map (·.size) = some cs.size) (hi2 : (P.info? ty2).map (·.size) = some cs2.size) :
    (results fn tmps).run P w = .ok (.tuple #[.agg cs, tmps.getD u undef, .agg cs2]) w := by
  have hp' : tmps[p]?.getD undef = .pointer (some ⟨g, 0, none⟩) := by simpa using hp
  have hq' : tmps[q]?.getD undef = .pointer (some ⟨g2, 0, none⟩) := by simpa using hq
  simp [results, h, hp', hq', asAddr, run_loadVar_row w g t ty cs fr d hg hu hd hi, run_loadVar_row w g2 t2 ty2 cs2 fr2 d2 hg2 hu2 hd2 hi2]
def cost (l : List (ByteArray × Bool)) : Nat := (l.map fun x => 4 + 2 * x.1.size).sum
theorem cost_drop {l : List (ByteArray × Bool)} {k : Nat} (h : k < l.length) : cost (l.drop k) = 4 + 2 * l[k].1.size + cost (l.drop (k + 1)) := by
  conv => lhs; rw [List.drop_eq_getElem_cons h]
  simp only [cost, List.map_cons, List.sum_cons]
theorem line_at {w : World} {A : Option Addr} {l : List (ByteArray × Bool)} (h : LineK.C w A l.length l) (k : Nat) (hk : k < l.length) :
    ∃ ad, A = some ad ∧ w.cell? (ad.add (k * 2)) = some (.string l[k].1) ∧ w.cell? ⟨(ad.add (k * 2)).block, (ad.add (k * 2)).off + 1, none⟩ = some (.bool l[k].2) := by
  obtain ⟨ad, c, e, _, hK, hc0⟩ := Kd.C_get h (ByteArray.empty, false) (k : Int) (by omega) (by omega)
  rw [Int.toNat_natCast] at hc0 hK
  have hg : l.getD k (ByteArray.empty, false) = l[k] := by simp [List.getD, hk]
  rw [hg] at hK
  obtain ⟨_, _, rfl, rfl, rfl⟩ := hK
  have hc : ∀ j u, [Value.string l[k].1, Value.bool l[k].2][j]? = some u → w.cell? (ad.add (k * 2 + j)) = some u := hc0
  exact ⟨ad, e, hc 0 _ rfl, by rw [← add_field _ _ 1 (by omega)]; exact hc 1 _ rfl⟩
theorem cost_cons (x : ByteArray × Bool) (l : List (ByteArray × Bool)) : cost (x :: l) = 4 + 2 * x.1.size + cost l := by simp [cost]
theorem lines_cost : ∀ (N : Nat) (l : List UInt8), l.length ≤ N → cost (linesP l) ≤ 6 * l.length ∧ (linesP l).length ≤ l.length
  | N, l, h => by
    by_cases h0 : l = []
    · subst h0
      rw [lines_nil]
      exact ⟨Nat.zero_le _, Nat.le_refl _⟩
    cases hc : cutB 10 l with
    | none =>
      have h1 := List.length_pos_iff.2 h0
      rw [lines_none h0 hc, cost_cons, mk_sizeB]
      simp only [cost, List.map_nil, List.sum_nil, List.length_cons, List.length_nil]
      omega
    | some x =>
      have hl := congrArg List.length (cutB_len (t := x.1) (u := x.2) hc)
      simp only [List.length_append, List.length_cons] at hl
      cases N with
      | zero => omega
      | succ N =>
        have ih := lines_cost N x.2 (by omega)
        rw [lines_some hc, cost_cons, mk_sizeB, List.length_cons]
        omega
theorem row_size (s : ByteArray) : (readR s).path.size ≤ s.size ∧ (readR s).data.size ≤ s.size := by
  have hz : ∀ k, (badR k).path.size ≤ s.size ∧ (badR k).data.size ≤ s.size := fun k => ⟨Nat.zero_le _, Nat.zero_le _⟩
  have hdat : ∀ (k : Int) (p : List UInt8) (l : List UInt8), p.length ≤ s.size → l.length ≤ s.size → (dataR k p l).path.size ≤ s.size ∧ (dataR k p l).data.size ≤ s.size := by
    intro k p l hp hl
    unfold dataR
    cases l with
    | nil => exact hz 2
    | cons c r =>
      simp only [List.length_cons] at hl
      simp only
      split
      · split
        · rename_i x hx
          have hb := unq_bound (o := x.1) (n := x.2) hx
          simp only [mkS, mk_sizeB] at hb
          split
          · simp only [mkS, mk_sizeB]
            omega
          · exact hz 2
        · exact hz 2
      · exact hz 2
  unfold readR
  cases hc : cutB 32 s.data.toList with
  | none => exact hz 1
  | some x =>
    have hl := congrArg List.length (cutB_len (t := x.1) (u := x.2) hc)
    rw [← Lib.size_eq] at hl
    simp only [List.length_append, List.length_cons] at hl
    simp only
    split
    · exact hz 1
    · unfold restR
      cases hu : unq (mkS x.2) with
      | none => exact hz 2
      | some y =>
        have hb := unq_bound (o := y.1) (n := y.2) hu
        simp only [mkS, mk_sizeB] at hb
        simp only
        split
        · split
          · exact ⟨by simp only [mkS, mk_sizeB]; omega, Nat.zero_le _⟩
          · exact hz 2
        · exact hdat _ _ _ (by omega) (by rw [List.length_drop]; omega)
theorem cuts_size : ∀ (N : Nat) (l : List UInt8), l.length ≤ N → ∀ y ∈ cutsP l, y.size ≤ l.length
  | N, l, h, y, hy => by
    cases hc : cutB 47 l with
    | none =>
      rw [cuts_none hc] at hy
      rw [List.mem_singleton.1 hy, mk_sizeB]
      exact Nat.le_refl _
    | some x =>
      have hl := congrArg List.length (cutB_len (t := x.1) (u := x.2) hc)
      simp only [List.length_append, List.length_cons] at hl
      rw [cuts_some hc] at hy
      cases N with
      | zero => omega
      | succ N =>
        rcases List.mem_cons.1 hy with rfl | hy
        · rw [mk_sizeB]; omega
        · have := cuts_size N x.2 (by omega) y hy
          omega
theorem split_size (s : ByteArray) : (∀ y ∈ (splitR s).1, y.size ≤ s.size) ∧ ((splitR s).2 = true → (splitR s).1 ≠ [] ∧ (splitR s).1.length ≤ 64) ∧ (splitR s).1.length ≤ s.size + 1 := by
  have hz : (∀ y ∈ (([], false) : List ByteArray × Bool).1, y.size ≤ s.size) ∧ ((([], false) : List ByteArray × Bool).2 = true → (([], false) : List ByteArray × Bool).1 ≠ [] ∧ (([], false) : List ByteArray × Bool).1.length ≤ 64) ∧ (([], false) : List ByteArray × Bool).1.length ≤ s.size + 1 := ⟨by simp, by simp, by simp⟩
  unfold splitR
  cases hs : s.data.toList with
  | nil => exact hz
  | cons c r =>
    have h2 : s.size = r.length + 1 := by rw [Lib.size_eq, hs]; rfl
    simp only
    split
    · split
      · refine ⟨fun y hy => ?_, fun h => ⟨?_, of_decide_eq_true h⟩, ?_⟩
        · have := cuts_size _ r (Nat.le_refl _) y hy
          omega
        · cases hc : cutB 47 r with
          | none => rw [cuts_none hc]; simp
          | some x => rw [cuts_some hc]; simp
        · have := cutsL_len _ r (Nat.le_refl _)
          simp only
          omega
      · exact hz
    · exact hz
theorem newF_bulk {tx : ByteArray} {p : List ByteArray} (hp : ∀ y ∈ p, y.size ≤ tx.size) (r : RowR) (hd : r.data.size ≤ tx.size) : (newF p r).bulk ≤ 4 + 2 * tx.size := by
  have h1 := bulk_eq (newF p r)
  have h2 : (p.getLastD ⟨#[]⟩).size ≤ tx.size := by
    cases p with
    | nil => exact Nat.zero_le _
    | cons x p => rw [List.getLastD_cons]; exact hp _ List.getLastD_mem_cons
  have h3 : bulkL (newF p r).files = 0 := rfl
  simp only [newF] at h1 h3 ⊢
  omega
/-- Both of the last two stores may come first. -/
theorem twoL_ {P : Program} {ops : Array Oper} {Q : Exit → Act → World → Prop} {md : Region.Mode} {S : World → Prop} {ds : List Nat} {i j : Nat} {Ni Nj : Option Tmp} {oi oj : Oper} {fuel : Nat} {l : Array Bool} {a : Act} {w : World} (li lj : Array Bool) (hi : ops[i]? = some oi) (hj : ops[j]? = some oj) (hNi : oi.dst = Ni) (hNj : oj.dst = Nj)
    (hc : (Region.ready md ops l == [i, j] && l.setIfInBounds i true == li && l.setIfInBounds j true == lj) = true) (hdi : i ∈ ds) (hdj : j ∈ ds)
    (h1 : ∀ K : Act → World → Prop, Shut (∀ a' w', wpAnyLast P md ops Q S ds fuel li a' w' → K a' w') → if Region.wanted oi (yielded ops a.tmps) = true then Oper.wp P oi a w K Q else K (a.put Ni undef) w)
    (h2 : ∀ K : Act → World → Prop, Shut (∀ a' w', wpAnyLast P md ops Q S ds fuel lj a' w' → K a' w') → if Region.wanted oj (yielded ops a.tmps) = true then Oper.wp P oj a w K Q else K (a.put Nj undef) w) :
    wpAnyLast P md ops Q S ds (fuel + 1) l a w := by
  subst hNi
  subst hNj
  simp only [Bool.and_eq_true, beq_iff_eq] at hc
  obtain ⟨⟨h3, h4⟩, h5⟩ := hc
  subst h4
  subst h5
  exact wpAnyLast_ready h3 (by simp) (AllReadyL.cons_last hi hdi (fun K hK => h1 K hK) (AllReadyL.cons_last hj hdj (fun K hK => h2 K hK) AllReadyL.nil))
theorem exec_append {P : Program} {o : Oper} {ev : Operand → Value} {w w' : World} {vs vx v' : Value} (s x : Operand) (t : TypeId) (ho : o.op = .call { callee := .builtin .append, args := #[s, x], argTypes := #[t, t] }) (hs : ev s = vs) (hx : ev x = vx)
    (hr : (Builtin.append_ #[t, t] o.type #[vs, vx]).run P w = .ok v' w') : (execOp ev o).run P w = .ok (.value v') w' := by
  unfold execOp
  simp only [ho, resolve, invoke, builtin, Sem.run_bind, Sem.run_pure, Result.andThen_ok, List.map_toArray, List.map_cons, List.map_nil, hs, hx, hr]
theorem R_onlyG {α : Type} {d : Kd α} {e base : Nat} {ok : Nat → Prop} {w w1 : World} {v : Value} {xs : List α} {F : Nat → Prop} (h : d.R e w base ok v xs) (ho : Only F w w1) (hn : ∀ k, ok k → ¬ F k) : d.R e w1 base ok v xs :=
  Kd.R_step h fun k hk hlt => ho.block k hlt (hn k hk)
section
variable {t : File} {last p : List ByteArray} {tx : ByteArray} {rr : RowR} (hr : readR tx = rr) (h0 : rr.rule = 0)
include hr h0
theorem line_3 (hs : splitR rr.path = (p, false)) : lineR t last tx = (3, t, last) := by
  unfold lineR
  rw [hr, if_pos h0, hs, if_neg (by simp)]
theorem line_4 (hs : splitR rr.path = (p, true)) (hc : last ≠ [] ∧ 0 ≤ cmpP last p) : lineR t last tx = (4, t, last) := by
  unfold lineR
  rw [hr, if_pos h0, hs, if_pos rfl, if_pos hc]
theorem line_5 (hs : splitR rr.path = (p, true)) (hc : ¬ (last ≠ [] ∧ 0 ≤ cmpP last p)) (hd : dirO t p = none) : lineR t last tx = (5, t, last) := by
  unfold lineR
  rw [hr, if_pos h0, hs, if_pos rfl, if_neg hc, hd]
theorem line_6 {d : File} (hs : splitR rr.path = (p, true)) (hc : ¬ (last ≠ [] ∧ 0 ≤ cmpP last p)) (hd : dirO t p = some d) (hk : rr.kind = 3 ∧ targetB rr.data = false) : lineR t last tx = (6, t, last) := by
  unfold lineR
  rw [hr, if_pos h0, hs, if_pos rfl, if_neg hc, hd]
  simp only
  rw [if_pos hk]
theorem line_0 {d : File} (hs : splitR rr.path = (p, true)) (hc : ¬ (last ≠ [] ∧ 0 ≤ cmpP last p)) (hd : dirO t p = some d) (hk : ¬ (rr.kind = 3 ∧ targetB rr.data = false)) : lineR t last tx = (0, addP t p d (newF p rr), p) := by
  unfold lineR
  rw [hr, if_pos h0, hs, if_pos rfl, if_neg hc, hd]
  simp only
  rw [if_neg hk]
end
theorem line_bad {t : File} {last : List ByteArray} {tx : ByteArray} {rr : RowR} (hr : readR tx = rr) (h0 : rr.rule ≠ 0) : lineR t last tx = (rr.rule, t, last) := by
  unfold lineR
  rw [hr, if_neg h0]
theorem rule_nat (s : ByteArray) : 0 ≤ (readR s).rule := by
  have hz : ∀ k, 0 ≤ k → 0 ≤ (badR k).rule := fun k h => h
  unfold readR
  split
  · exact hz 1 (by decide)
  · split
    · exact hz 1 (by decide)
    · unfold restR
      split
      · split
        · split
          · exact Int.le_refl 0
          · exact hz 2 (by decide)
        · unfold dataR
          split
          · exact hz 2 (by decide)
          · split
            · split
              · split
                · exact Int.le_refl 0
                · exact hz 2 (by decide)
              · exact hz 2 (by decide)
            · exact hz 2 (by decide)
      · exact hz 2 (by decide)
theorem last_at {p : List ByteArray} {n : Nat} (h : p.length = n + 1) : rdOf ByteArray.empty p (n : Int) = p.getLastD ⟨#[]⟩ := by
  unfold rdOf
  rw [Int.toNat_natCast, List.getD_eq_getElem?_getD, List.getLastD_eq_getLast?, List.getLast?_eq_getElem?, h, Nat.add_sub_cancel]
  rfl
theorem add_bulk {t d z : File} {p : List ByteArray} {k : Int} {m : Nat} (hg : goP t p.dropLast = (k, some d)) (hz : z.bulk ≤ m) : (addP t p d z).bulk ≤ t.bulk + m := by
  have h1 := bulk_put p.dropLast t (pushF d z) d k hg
  have h2 := push_bulk d z
  unfold addP
  omega
theorem Only.grown_of {w w' : World} {row : Option Nat} (h : w.grownBy w' row) : Only (fun k => row = some k) w w' := ⟨h.os, h.tape, h.output, h.size, fun k hk hn => h.block k hk (fun e => hn e.symm)⟩
theorem Only.drew {F : Nat → Prop} {X Y : World} (h : Only F X Y) : Only F X Y.drew := ⟨h.os, h.tape, h.output, h.size, h.block⟩
theorem bulk_go : ∀ (q : List ByteArray) (f d : File) (k : Int), goP f q = (k, some d) → d.bulk ≤ f.bulk
  | [], f, d, k, h => by
    rw [goP] at h
    injection h with _ h
    injection h with h
    subst h
    exact Nat.le_refl _
  | n :: q, f, d, k, h => by
    obtain ⟨x, hx, _, hg⟩ := goP_step h
    have h1 := bulk_go q x d k hg
    have h2 := bulk_child (List.mem_of_getElem? hx)
    omega
theorem cell_heap {W W' : World} {g : Nat} (h : W'.heap[g]? = W.heap[g]?) (j : Nat) : W'.cell? ⟨g, j, none⟩ = W.cell? ⟨g, j, none⟩ := by simp [World.cell?, h]
theorem frozen_heap {W W' : World} {g : Nat} {cs : Array Value} {t : TypeId} (h : W'.heap[g]? = W.heap[g]?) (h2 : W.heap[g]? = some (.cells cs t (0, 0))) (j : Nat) : W'.frozen? ⟨g, j, none⟩ = false := by simp [World.frozen?, h, h2]
theorem own_cells {w : World} {B g n c : Nat} {e : TypeId} {m : Nat} {xs : List Value} (h : w.ownsRow B e m (.slice (some ⟨g, 0, none⟩) n c) n xs) : ∃ cs, w.heap[g]? = some (.cells cs e (0, 0)) := by
  rcases h.2 with ⟨hv0, _⟩ | ⟨g', cap, cur, hvv, hb, hg, _⟩
  · cases hv0
  · injection hvv with hvv
    injection hvv with hvv
    injection hvv with hvv
    subst hvv
    exact ⟨_, hg⟩
theorem setCell_comm (w : World) (p q : Addr) (v u : Value) (h : p.block ≠ q.block) : (w.setCell p v).setCell q u = (w.setCell q u).setCell p v := by
  unfold World.setCell
  simp only
  congr 1
  apply Array.ext
  · simp
  · intro i h1 h2
    simp only [Array.getElem_modify]
    by_cases hp : p.block = i
    · by_cases hq : q.block = i
      · exact absurd (hp.trans hq.symm) h
      · simp [hp, hq]
    · by_cases hq : q.block = i
      · simp [hp, hq]
      · simp [hp, hq]
theorem setCell_same {W W' : World} (p : Addr) (v : Value) (h : W.heap[p.block]? = W'.heap[p.block]?) : (W.setCell p v).heap[p.block]? = (W'.setCell p v).heap[p.block]? := by
  simp [World.setCell, Array.getElem?_modify, h]
theorem set4 {inner : List Value} {m : Nat} (h : inner.length = m) (a b c d a' b' c' d' : Value) : ((((inner ++ [a, b, c, d]).set m a').set (m + 1) b').set (m + 2) c').set (m + 3) d' = inner ++ [a', b', c', d'] := by
  subst h
  simp [List.set_append]
end Go.Proofs.YtdnhjnlhmfajnaaDoor.G
