/- The law PathsOrder: it returns true. -/
import Derived.Test.YtdhchmonmbppmaaDoorLOnce
namespace Go.Proofs.YtdhchmonmbppmaaDoor.G
open Go.RowKit Go.Lib Go.Proofs.YtdhchmonmbppmaaDoorW.PrintWords Go.Proofs.YtdhchmonmbppmaaDoorW.PrintLast
set_option linter.unusedVariables false

theorem within_iff (p q : List ByteArray) : withinB p q = true ↔ q <+: p := by
  unfold withinB
  rw [decide_eq_true_iff]
  exact both_prefix p q
theorem within_both {p q : List ByteArray} (h1 : withinB p q = true) (h2 : withinB q p = true) : p = q :=
  ((within_iff q p).1 h2).eq_of_length (Nat.le_antisymm ((within_iff q p).1 h2).length_le ((within_iff p q).1 h1).length_le)
/-- What the law's road hangs on. -/
theorem order_cases (p q r : List ByteArray) :
    (withinB p q = true ∧ withinB q r = true → withinB p r = true) ∧
    ((withinB p q = false ∧ sameB p q = false ∧ cmpP p q = -1 ∧ cmpP q p = 1) ∨ (withinB p q = false ∧ sameB p q = false ∧ cmpP p q = 1 ∧ cmpP q p = -1) ∨
     (withinB p q = true ∧ withinB q p = true ∧ sameB p q = true ∧ cmpP p q = 0 ∧ cmpP q p = 0) ∨ (withinB p q = true ∧ withinB q p = false ∧ sameB p q = false ∧ cmpP p q = 1 ∧ cmpP q p = -1)) := by
  refine ⟨fun ⟨h1, h2⟩ => (within_iff p r).2 (((within_iff q r).1 h2).trans ((within_iff p q).1 h1)), ?_⟩
  have ha := cmp_anti p q
  have hself : ∀ x : List ByteArray, withinB x x = true := fun x => (within_iff x x).2 (List.prefix_refl x)
  cases h1 : withinB p q
  · have hne : p ≠ q := by rintro rfl; rw [hself] at h1; cases h1
    have hs : sameB p q = false := by unfold sameB; exact decide_eq_false hne
    have hz : cmpP p q ≠ 0 := fun h => hne (cmp_zero.1 h)
    rcases cmp_range p q with h | h | h
    · exact .inl ⟨rfl, hs, h, by omega⟩
    · exact absurd h hz
    · exact .inr (.inl ⟨rfl, hs, h, by omega⟩)
  · cases h2 : withinB q p
    · have hne : p ≠ q := by rintro rfl; rw [hself] at h2; cases h2
      have hs : sameB p q = false := by unfold sameB; exact decide_eq_false hne
      have hz : cmpP p q ≠ 0 := fun h => hne (cmp_zero.1 h)
      have hp := cmp_prefix ((within_iff p q).1 h1)
      rcases cmp_range p q with h | h | h
      · omega
      · exact absurd h hz
      · exact .inr (.inr (.inr ⟨rfl, rfl, hs, h, by omega⟩))
    · have he := within_both h1 h2
      have hs : sameB p q = true := by unfold sameB; exact decide_eq_true he
      have hz : cmpP p q = 0 := cmp_zero.2 he
      exact .inr (.inr (.inl ⟨rfl, rfl, hs, hz, by omega⟩))

set_option maxHeartbeats 16000000 in
set_option maxRecDepth 100000 in
theorem lorder_calls (A : Option Addr) (c : Nat) (p : List ByteArray) (B : Option Addr) (d : Nat) (q : List ByteArray) (C : Option Addr) (f : Nat) (r : List ByteArray) (w : World) (hr : Kd.C Kd.string w A p.length p) (hc : p.length ≤ c) (hl : p.length ≤ 1048576) (hs : sumP p ≤ 2097152)
    (hr2 : Kd.C Kd.string w B q.length q) (hd : q.length ≤ d) (hl2 : q.length ≤ 1048576) (hs2 : sumP q ≤ 2097152) (hr3 : Kd.C Kd.string w C r.length r) (hf : r.length ≤ f) (hl3 : r.length ≤ 1048576) (hs3 : sumP r ≤ 2097152) :
    Calls Tryd.prog 7 #[.slice A p.length c, .slice B q.length d, .slice C r.length f] w fun e w' => e = .returned (.bool true) ∧ Below w.heap.size w w' := by
  have T : ∀ {F : FuncId} {args : Array Value} {W : World} {v : Value}, Below w.heap.size w W → Calls Tryd.prog F args W (fun e w' => e = .returned v ∧ ∃ n, w' = W.drewN n) → Calls Tryd.prog F args W (fun e w' => e = .returned v ∧ Below w.heap.size w w') :=
    fun hb h => h.mono fun e w' ⟨he, n, hw⟩ => ⟨he, hw ▸ bdrewN hb n⟩
  have HWpq := Lib.hid (fun W (h : Below w.heap.size w W) => T h (within_calls A c p B d q W (Kd.C_below hr h) hc (Kd.C_below hr2 h) hd (by omega)))
  have HWqr := Lib.hid (fun W (h : Below w.heap.size w W) => T h (within_calls B d q C f r W (Kd.C_below hr2 h) hd (Kd.C_below hr3 h) hf (by omega)))
  have HWpr := Lib.hid (fun W (h : Below w.heap.size w W) => T h (within_calls A c p C f r W (Kd.C_below hr h) hc (Kd.C_below hr3 h) hf (by omega)))
  have HWqp := Lib.hid (fun W (h : Below w.heap.size w W) => T h (within_calls B d q A c p W (Kd.C_below hr2 h) hd (Kd.C_below hr h) hc (by omega)))
  have HSame := Lib.hid (fun W (h : Below w.heap.size w W) => T h (rsame_calls A c p B d q W (Kd.C_below hr h) hc (Kd.C_below hr2 h) hd (by omega)))
  have HCpq := Lib.hid (fun W (h : Below w.heap.size w W) => T h (compare_calls A c p B d q W (Kd.C_below hr h) hc (Kd.C_below hr2 h) hd (by omega)))
  have HCqp := Lib.hid (fun W (h : Below w.heap.size w W) => T h (compare_calls B d q A c p W (Kd.C_below hr2 h) hd (Kd.C_below hr h) hc (by omega)))
  have HCqr := Lib.hid (fun W (h : Below w.heap.size w W) => T h (compare_calls B d q C f r W (Kd.C_below hr2 h) hd (Kd.C_below hr3 h) hf (by omega)))
  have HCpr := Lib.hid (fun W (h : Below w.heap.size w W) => T h (compare_calls A c p C f r W (Kd.C_below hr h) hc (Kd.C_below hr3 h) hf (by omega)))
  have HT := Lib.hid (fun h1 : ¬ 0 < cmpP q r => fun h2 : cmpP p q ≤ 0 => cmp_trans (a := p) (b := q) (c := r) h2 (by omega))
  obtain ⟨HX, HY⟩ := order_cases p q r
  clear T hr hr2 hr3
  generalize withinB p q = wpq at *
  generalize withinB q r = wqr at *
  generalize withinB p r = wpr at *
  generalize withinB q p = wqp at *
  generalize sameB p q = same at *
  generalize cmpP p q = c1 at *
  generalize cmpP q p = c2 at *
  generalize cmpP q r = c3 at *
  generalize cmpP p r = c4 at *
  go_enter Tryd.func7, Tryd.ntmps7
  go_wp2_with fail
  refine (begins_calls _).mono ?_
  rintro e w1 ⟨rfl, hb⟩
  rcases HY with ⟨rfl, rfl, rfl, rfl⟩ | ⟨rfl, rfl, rfl, rfl⟩ | ⟨rfl, rfl, rfl, rfl, rfl⟩ | ⟨rfl, rfl, rfl, rfl, rfl⟩
  · have HT := Lib.hid (fun h => HT.out h (by decide))
    clear HX
    cases h3 : decide (0 < c3)
    · have h4 := HT.out (by have := of_decide_eq_false h3; omega)
      have h5 : decide (c4 ≤ 0) = true := decide_eq_true h4
      have h6 : ¬ (0 < c3) := of_decide_eq_false h3
      go_wp2_with fail
      refine (HWpq.out _ hb).mono ?_
      rintro e w' ⟨rfl, hb2⟩
      clear hb
      have hb := hb2
      clear hb2
      go_wp2_with fail
      refine (HWpq.out _ hb).mono ?_
      rintro e w' ⟨rfl, hb2⟩
      clear hb
      have hb := hb2
      clear hb2
      go_wp2_with fail
      refine (HSame.out _ hb).mono ?_
      rintro e w' ⟨rfl, hb2⟩
      clear hb
      have hb := hb2
      clear hb2
      go_wp2_with fail
      refine (HCpq.out _ hb).mono ?_
      rintro e w' ⟨rfl, hb2⟩
      clear hb
      have hb := hb2
      clear hb2
      go_wp2_with fail
      refine (HCpq.out _ hb).mono ?_
      rintro e w' ⟨rfl, hb2⟩
      clear hb
      have hb := hb2
      clear hb2
      go_wp2_with fail
      refine (HCqp.out _ hb).mono ?_
      rintro e w' ⟨rfl, hb2⟩
      clear hb
      have hb := hb2
      clear hb2
      go_wp2_with fail
      refine (HWpq.out _ hb).mono ?_
      rintro e w' ⟨rfl, hb2⟩
      clear hb
      have hb := hb2
      clear hb2
      go_wp2_with fail
      refine (HCpq.out _ hb).mono ?_
      rintro e w' ⟨rfl, hb2⟩
      clear hb
      have hb := hb2
      clear hb2
      go_wp2_with fail
      refine (HCqr.out _ hb).mono ?_
      rintro e w' ⟨rfl, hb2⟩
      clear hb
      have hb := hb2
      clear hb2
      go_wp2_with fail
      refine (HCpr.out _ hb).mono ?_
      rintro e w' ⟨rfl, hb2⟩
      clear hb
      have hb := hb2
      clear hb2
      go_wp2_with fail
      go_ret
      exact ⟨rfl, hb⟩
    · have h6 : 0 < c3 := of_decide_eq_true h3
      go_wp2_with fail
      refine (HWpq.out _ hb).mono ?_
      rintro e w' ⟨rfl, hb2⟩
      clear hb
      have hb := hb2
      clear hb2
      go_wp2_with fail
      refine (HWpq.out _ hb).mono ?_
      rintro e w' ⟨rfl, hb2⟩
      clear hb
      have hb := hb2
      clear hb2
      go_wp2_with fail
      refine (HSame.out _ hb).mono ?_
      rintro e w' ⟨rfl, hb2⟩
      clear hb
      have hb := hb2
      clear hb2
      go_wp2_with fail
      refine (HCpq.out _ hb).mono ?_
      rintro e w' ⟨rfl, hb2⟩
      clear hb
      have hb := hb2
      clear hb2
      go_wp2_with fail
      refine (HCpq.out _ hb).mono ?_
      rintro e w' ⟨rfl, hb2⟩
      clear hb
      have hb := hb2
      clear hb2
      go_wp2_with fail
      refine (HCqp.out _ hb).mono ?_
      rintro e w' ⟨rfl, hb2⟩
      clear hb
      have hb := hb2
      clear hb2
      go_wp2_with fail
      refine (HWpq.out _ hb).mono ?_
      rintro e w' ⟨rfl, hb2⟩
      clear hb
      have hb := hb2
      clear hb2
      go_wp2_with fail
      refine (HCpq.out _ hb).mono ?_
      rintro e w' ⟨rfl, hb2⟩
      clear hb
      have hb := hb2
      clear hb2
      go_wp2_with fail
      refine (HCqr.out _ hb).mono ?_
      rintro e w' ⟨rfl, hb2⟩
      clear hb
      have hb := hb2
      clear hb2
      go_wp2_with fail
      go_ret
      exact ⟨rfl, hb⟩
  · clear HX HT
    go_wp2_with fail
    refine (HWpq.out _ hb).mono ?_
    rintro e w' ⟨rfl, hb2⟩
    clear hb
    have hb := hb2
    clear hb2
    go_wp2_with fail
    refine (HWpq.out _ hb).mono ?_
    rintro e w' ⟨rfl, hb2⟩
    clear hb
    have hb := hb2
    clear hb2
    go_wp2_with fail
    refine (HSame.out _ hb).mono ?_
    rintro e w' ⟨rfl, hb2⟩
    clear hb
    have hb := hb2
    clear hb2
    go_wp2_with fail
    refine (HCpq.out _ hb).mono ?_
    rintro e w' ⟨rfl, hb2⟩
    clear hb
    have hb := hb2
    clear hb2
    go_wp2_with fail
    refine (HCpq.out _ hb).mono ?_
    rintro e w' ⟨rfl, hb2⟩
    clear hb
    have hb := hb2
    clear hb2
    go_wp2_with fail
    refine (HCqp.out _ hb).mono ?_
    rintro e w' ⟨rfl, hb2⟩
    clear hb
    have hb := hb2
    clear hb2
    go_wp2_with fail
    refine (HWpq.out _ hb).mono ?_
    rintro e w' ⟨rfl, hb2⟩
    clear hb
    have hb := hb2
    clear hb2
    go_wp2_with fail
    refine (HCpq.out _ hb).mono ?_
    rintro e w' ⟨rfl, hb2⟩
    clear hb
    have hb := hb2
    clear hb2
    go_wp2_with fail
    go_ret
    exact ⟨rfl, hb⟩
  · have HT := Lib.hid (fun h => HT.out h (by decide))
    cases wqr
    · clear HX
      cases h3 : decide (0 < c3)
      · have h4 := HT.out (by have := of_decide_eq_false h3; omega)
        have h5 : decide (c4 ≤ 0) = true := decide_eq_true h4
        have h6 : ¬ (0 < c3) := of_decide_eq_false h3
        go_wp2_with fail
        refine (HWpq.out _ hb).mono ?_
        rintro e w' ⟨rfl, hb2⟩
        clear hb
        have hb := hb2
        clear hb2
        go_wp2_with fail
        refine (HWqr.out _ hb).mono ?_
        rintro e w' ⟨rfl, hb2⟩
        clear hb
        have hb := hb2
        clear hb2
        go_wp2_with fail
        refine (HWpq.out _ hb).mono ?_
        rintro e w' ⟨rfl, hb2⟩
        clear hb
        have hb := hb2
        clear hb2
        go_wp2_with fail
        refine (HWqp.out _ hb).mono ?_
        rintro e w' ⟨rfl, hb2⟩
        clear hb
        have hb := hb2
        clear hb2
        go_wp2_with fail
        refine (HSame.out _ hb).mono ?_
        rintro e w' ⟨rfl, hb2⟩
        clear hb
        have hb := hb2
        clear hb2
        go_wp2_with fail
        refine (HCpq.out _ hb).mono ?_
        rintro e w' ⟨rfl, hb2⟩
        clear hb
        have hb := hb2
        clear hb2
        go_wp2_with fail
        refine (HCpq.out _ hb).mono ?_
        rintro e w' ⟨rfl, hb2⟩
        clear hb
        have hb := hb2
        clear hb2
        go_wp2_with fail
        refine (HCqp.out _ hb).mono ?_
        rintro e w' ⟨rfl, hb2⟩
        clear hb
        have hb := hb2
        clear hb2
        go_wp2_with fail
        refine (HWpq.out _ hb).mono ?_
        rintro e w' ⟨rfl, hb2⟩
        clear hb
        have hb := hb2
        clear hb2
        go_wp2_with fail
        refine (HCqp.out _ hb).mono ?_
        rintro e w' ⟨rfl, hb2⟩
        clear hb
        have hb := hb2
        clear hb2
        go_wp2_with fail
        refine (HCpq.out _ hb).mono ?_
        rintro e w' ⟨rfl, hb2⟩
        clear hb
        have hb := hb2
        clear hb2
        go_wp2_with fail
        refine (HCqr.out _ hb).mono ?_
        rintro e w' ⟨rfl, hb2⟩
        clear hb
        have hb := hb2
        clear hb2
        go_wp2_with fail
        refine (HCpr.out _ hb).mono ?_
        rintro e w' ⟨rfl, hb2⟩
        clear hb
        have hb := hb2
        clear hb2
        go_wp2_with fail
        go_ret
        exact ⟨rfl, hb⟩
      · have h6 : 0 < c3 := of_decide_eq_true h3
        go_wp2_with fail
        refine (HWpq.out _ hb).mono ?_
        rintro e w' ⟨rfl, hb2⟩
        clear hb
        have hb := hb2
        clear hb2
        go_wp2_with fail
        refine (HWqr.out _ hb).mono ?_
        rintro e w' ⟨rfl, hb2⟩
        clear hb
        have hb := hb2
        clear hb2
        go_wp2_with fail
        refine (HWpq.out _ hb).mono ?_
        rintro e w' ⟨rfl, hb2⟩
        clear hb
        have hb := hb2
        clear hb2
        go_wp2_with fail
        refine (HWqp.out _ hb).mono ?_
        rintro e w' ⟨rfl, hb2⟩
        clear hb
        have hb := hb2
        clear hb2
        go_wp2_with fail
        refine (HSame.out _ hb).mono ?_
        rintro e w' ⟨rfl, hb2⟩
        clear hb
        have hb := hb2
        clear hb2
        go_wp2_with fail
        refine (HCpq.out _ hb).mono ?_
        rintro e w' ⟨rfl, hb2⟩
        clear hb
        have hb := hb2
        clear hb2
        go_wp2_with fail
        refine (HCpq.out _ hb).mono ?_
        rintro e w' ⟨rfl, hb2⟩
        clear hb
        have hb := hb2
        clear hb2
        go_wp2_with fail
        refine (HCqp.out _ hb).mono ?_
        rintro e w' ⟨rfl, hb2⟩
        clear hb
        have hb := hb2
        clear hb2
        go_wp2_with fail
        refine (HWpq.out _ hb).mono ?_
        rintro e w' ⟨rfl, hb2⟩
        clear hb
        have hb := hb2
        clear hb2
        go_wp2_with fail
        refine (HCqp.out _ hb).mono ?_
        rintro e w' ⟨rfl, hb2⟩
        clear hb
        have hb := hb2
        clear hb2
        go_wp2_with fail
        refine (HCpq.out _ hb).mono ?_
        rintro e w' ⟨rfl, hb2⟩
        clear hb
        have hb := hb2
        clear hb2
        go_wp2_with fail
        refine (HCqr.out _ hb).mono ?_
        rintro e w' ⟨rfl, hb2⟩
        clear hb
        have hb := hb2
        clear hb2
        go_wp2_with fail
        go_ret
        exact ⟨rfl, hb⟩
    · obtain rfl : wpr = true := HX ⟨rfl, rfl⟩
      clear HX
      cases h3 : decide (0 < c3)
      · have h4 := HT.out (by have := of_decide_eq_false h3; omega)
        have h5 : decide (c4 ≤ 0) = true := decide_eq_true h4
        have h6 : ¬ (0 < c3) := of_decide_eq_false h3
        go_wp2_with fail
        refine (HWpq.out _ hb).mono ?_
        rintro e w' ⟨rfl, hb2⟩
        clear hb
        have hb := hb2
        clear hb2
        go_wp2_with fail
        refine (HWqr.out _ hb).mono ?_
        rintro e w' ⟨rfl, hb2⟩
        clear hb
        have hb := hb2
        clear hb2
        go_wp2_with fail
        refine (HWpr.out _ hb).mono ?_
        rintro e w' ⟨rfl, hb2⟩
        clear hb
        have hb := hb2
        clear hb2
        go_wp2_with fail
        refine (HWpq.out _ hb).mono ?_
        rintro e w' ⟨rfl, hb2⟩
        clear hb
        have hb := hb2
        clear hb2
        go_wp2_with fail
        refine (HWqp.out _ hb).mono ?_
        rintro e w' ⟨rfl, hb2⟩
        clear hb
        have hb := hb2
        clear hb2
        go_wp2_with fail
        refine (HSame.out _ hb).mono ?_
        rintro e w' ⟨rfl, hb2⟩
        clear hb
        have hb := hb2
        clear hb2
        go_wp2_with fail
        refine (HCpq.out _ hb).mono ?_
        rintro e w' ⟨rfl, hb2⟩
        clear hb
        have hb := hb2
        clear hb2
        go_wp2_with fail
        refine (HCpq.out _ hb).mono ?_
        rintro e w' ⟨rfl, hb2⟩
        clear hb
        have hb := hb2
        clear hb2
        go_wp2_with fail
        refine (HCqp.out _ hb).mono ?_
        rintro e w' ⟨rfl, hb2⟩
        clear hb
        have hb := hb2
        clear hb2
        go_wp2_with fail
        refine (HWpq.out _ hb).mono ?_
        rintro e w' ⟨rfl, hb2⟩
        clear hb
        have hb := hb2
        clear hb2
        go_wp2_with fail
        refine (HCqp.out _ hb).mono ?_
        rintro e w' ⟨rfl, hb2⟩
        clear hb
        have hb := hb2
        clear hb2
        go_wp2_with fail
        refine (HCpq.out _ hb).mono ?_
        rintro e w' ⟨rfl, hb2⟩
        clear hb
        have hb := hb2
        clear hb2
        go_wp2_with fail
        refine (HCqr.out _ hb).mono ?_
        rintro e w' ⟨rfl, hb2⟩
        clear hb
        have hb := hb2
        clear hb2
        go_wp2_with fail
        refine (HCpr.out _ hb).mono ?_
        rintro e w' ⟨rfl, hb2⟩
        clear hb
        have hb := hb2
        clear hb2
        go_wp2_with fail
        go_ret
        exact ⟨rfl, hb⟩
      · have h6 : 0 < c3 := of_decide_eq_true h3
        go_wp2_with fail
        refine (HWpq.out _ hb).mono ?_
        rintro e w' ⟨rfl, hb2⟩
        clear hb
        have hb := hb2
        clear hb2
        go_wp2_with fail
        refine (HWqr.out _ hb).mono ?_
        rintro e w' ⟨rfl, hb2⟩
        clear hb
        have hb := hb2
        clear hb2
        go_wp2_with fail
        refine (HWpr.out _ hb).mono ?_
        rintro e w' ⟨rfl, hb2⟩
        clear hb
        have hb := hb2
        clear hb2
        go_wp2_with fail
        refine (HWpq.out _ hb).mono ?_
        rintro e w' ⟨rfl, hb2⟩
        clear hb
        have hb := hb2
        clear hb2
        go_wp2_with fail
        refine (HWqp.out _ hb).mono ?_
        rintro e w' ⟨rfl, hb2⟩
        clear hb
        have hb := hb2
        clear hb2
        go_wp2_with fail
        refine (HSame.out _ hb).mono ?_
        rintro e w' ⟨rfl, hb2⟩
        clear hb
        have hb := hb2
        clear hb2
        go_wp2_with fail
        refine (HCpq.out _ hb).mono ?_
        rintro e w' ⟨rfl, hb2⟩
        clear hb
        have hb := hb2
        clear hb2
        go_wp2_with fail
        refine (HCpq.out _ hb).mono ?_
        rintro e w' ⟨rfl, hb2⟩
        clear hb
        have hb := hb2
        clear hb2
        go_wp2_with fail
        refine (HCqp.out _ hb).mono ?_
        rintro e w' ⟨rfl, hb2⟩
        clear hb
        have hb := hb2
        clear hb2
        go_wp2_with fail
        refine (HWpq.out _ hb).mono ?_
        rintro e w' ⟨rfl, hb2⟩
        clear hb
        have hb := hb2
        clear hb2
        go_wp2_with fail
        refine (HCqp.out _ hb).mono ?_
        rintro e w' ⟨rfl, hb2⟩
        clear hb
        have hb := hb2
        clear hb2
        go_wp2_with fail
        refine (HCpq.out _ hb).mono ?_
        rintro e w' ⟨rfl, hb2⟩
        clear hb
        have hb := hb2
        clear hb2
        go_wp2_with fail
        refine (HCqr.out _ hb).mono ?_
        rintro e w' ⟨rfl, hb2⟩
        clear hb
        have hb := hb2
        clear hb2
        go_wp2_with fail
        go_ret
        exact ⟨rfl, hb⟩
  · clear HT
    cases wqr
    · clear HX
      go_wp2_with fail
      refine (HWpq.out _ hb).mono ?_
      rintro e w' ⟨rfl, hb2⟩
      clear hb
      have hb := hb2
      clear hb2
      go_wp2_with fail
      refine (HWqr.out _ hb).mono ?_
      rintro e w' ⟨rfl, hb2⟩
      clear hb
      have hb := hb2
      clear hb2
      go_wp2_with fail
      refine (HWpq.out _ hb).mono ?_
      rintro e w' ⟨rfl, hb2⟩
      clear hb
      have hb := hb2
      clear hb2
      go_wp2_with fail
      refine (HWqp.out _ hb).mono ?_
      rintro e w' ⟨rfl, hb2⟩
      clear hb
      have hb := hb2
      clear hb2
      go_wp2_with fail
      refine (HSame.out _ hb).mono ?_
      rintro e w' ⟨rfl, hb2⟩
      clear hb
      have hb := hb2
      clear hb2
      go_wp2_with fail
      refine (HCpq.out _ hb).mono ?_
      rintro e w' ⟨rfl, hb2⟩
      clear hb
      have hb := hb2
      clear hb2
      go_wp2_with fail
      refine (HCpq.out _ hb).mono ?_
      rintro e w' ⟨rfl, hb2⟩
      clear hb
      have hb := hb2
      clear hb2
      go_wp2_with fail
      refine (HCqp.out _ hb).mono ?_
      rintro e w' ⟨rfl, hb2⟩
      clear hb
      have hb := hb2
      clear hb2
      go_wp2_with fail
      refine (HWpq.out _ hb).mono ?_
      rintro e w' ⟨rfl, hb2⟩
      clear hb
      have hb := hb2
      clear hb2
      go_wp2_with fail
      refine (HCqp.out _ hb).mono ?_
      rintro e w' ⟨rfl, hb2⟩
      clear hb
      have hb := hb2
      clear hb2
      go_wp2_with fail
      refine (HCpq.out _ hb).mono ?_
      rintro e w' ⟨rfl, hb2⟩
      clear hb
      have hb := hb2
      clear hb2
      go_wp2_with fail
      go_ret
      exact ⟨rfl, hb⟩
    · obtain rfl : wpr = true := HX ⟨rfl, rfl⟩
      clear HX
      go_wp2_with fail
      refine (HWpq.out _ hb).mono ?_
      rintro e w' ⟨rfl, hb2⟩
      clear hb
      have hb := hb2
      clear hb2
      go_wp2_with fail
      refine (HWqr.out _ hb).mono ?_
      rintro e w' ⟨rfl, hb2⟩
      clear hb
      have hb := hb2
      clear hb2
      go_wp2_with fail
      refine (HWpr.out _ hb).mono ?_
      rintro e w' ⟨rfl, hb2⟩
      clear hb
      have hb := hb2
      clear hb2
      go_wp2_with fail
      refine (HWpq.out _ hb).mono ?_
      rintro e w' ⟨rfl, hb2⟩
      clear hb
      have hb := hb2
      clear hb2
      go_wp2_with fail
      refine (HWqp.out _ hb).mono ?_
      rintro e w' ⟨rfl, hb2⟩
      clear hb
      have hb := hb2
      clear hb2
      go_wp2_with fail
      refine (HSame.out _ hb).mono ?_
      rintro e w' ⟨rfl, hb2⟩
      clear hb
      have hb := hb2
      clear hb2
      go_wp2_with fail
      refine (HCpq.out _ hb).mono ?_
      rintro e w' ⟨rfl, hb2⟩
      clear hb
      have hb := hb2
      clear hb2
      go_wp2_with fail
      refine (HCpq.out _ hb).mono ?_
      rintro e w' ⟨rfl, hb2⟩
      clear hb
      have hb := hb2
      clear hb2
      go_wp2_with fail
      refine (HCqp.out _ hb).mono ?_
      rintro e w' ⟨rfl, hb2⟩
      clear hb
      have hb := hb2
      clear hb2
      go_wp2_with fail
      refine (HWpq.out _ hb).mono ?_
      rintro e w' ⟨rfl, hb2⟩
      clear hb
      have hb := hb2
      clear hb2
      go_wp2_with fail
      refine (HCqp.out _ hb).mono ?_
      rintro e w' ⟨rfl, hb2⟩
      clear hb
      have hb := hb2
      clear hb2
      go_wp2_with fail
      refine (HCpq.out _ hb).mono ?_
      rintro e w' ⟨rfl, hb2⟩
      clear hb
      have hb := hb2
      clear hb2
      go_wp2_with fail
      go_ret
      exact ⟨rfl, hb⟩
end Go.Proofs.YtdhchmonmbppmaaDoor.G
