/- paths.Within, paths.Compare, and the laws' own begins. -/
import Derived.Test.YtdhchmonmbppmaaDoorLaw2
namespace Go.Proofs.YtdhchmonmbppmaaDoor.G
open Go.RowKit Go.Lib Go.Proofs.YtdhchmonmbppmaaDoorW.PrintWords Go.Proofs.YtdhchmonmbppmaaDoorW.PrintLast
set_option linter.unusedVariables false

def withinB (p q : List ByteArray) : Bool := decide (both p q = q.length)
set_option maxHeartbeats 2000000 in
theorem within_calls (A : Option Addr) (c : Nat) (a : List ByteArray) (B : Option Addr) (d : Nat) (b : List ByteArray) (w : World) (hr : Kd.C Kd.string w A a.length a) (hc : a.length ≤ c) (hs : Kd.C Kd.string w B b.length b) (hd : b.length ≤ d) (hl : a.length ≤ 8796093022208) :
    Calls Tryd.prog 20 #[.slice A a.length c, .slice B b.length d] w fun e w' => e = .returned (.bool (withinB a b)) ∧ ∃ n, w' = w.drewN n := by
  have H1 := Lib.hid (alike_calls A c a B d b w hr hc hs hd hl)
  have HW := Lib.hid (show withinB a b = ((both a b : Int) == (b.length : Int)) by
    unfold withinB
    rw [Bool.eq_iff_iff, decide_eq_true_iff, beq_iff_eq]
    omega)
  clear hr hs
  generalize both a b = k at *
  generalize withinB a b = wb at *
  have hw := HW.out.symm
  go_enter Tryd.func20, Tryd.ntmps20
  go_wp2_with fail
  refine H1.out.mono ?_
  rintro e w1 ⟨rfl, n1, rfl⟩
  go_wp2_with fail
  go_ret
  exact ⟨by rw [← hw]; rfl, n1, rfl⟩

set_option maxHeartbeats 4000000 in
theorem compare_calls (A : Option Addr) (c : Nat) (a : List ByteArray) (B : Option Addr) (d : Nat) (b : List ByteArray) (w : World) (hr : Kd.C Kd.string w A a.length a) (hc : a.length ≤ c) (hs : Kd.C Kd.string w B b.length b) (hd : b.length ≤ d) (hl : a.length ≤ 8796093022208) :
    Calls Tryd.prog 22 #[.slice A a.length c, .slice B b.length d] w fun e w' => e = .returned (.int .i64 (cmpP a b)) ∧ ∃ n, w' = w.drewN n := by
  have H1 := Lib.hid (alike_calls A c a B d b w hr hc hs hd hl)
  have HQ := cmpP_both a b
  have hk1 := both_le_left a b
  have hk2 := both_le_right a b
  by_cases h : both a b < a.length ∧ both a b < b.length
  · rw [dif_pos h] at HQ
    obtain ⟨ad, rfl, hx⟩ := Kd.at_string hr (both a b : Int) (by omega) (by omega)
    obtain ⟨bd, rfl, hy⟩ := Kd.at_string hs (both a b : Int) (by omega) (by omega)
    rw [Int.toNat_natCast] at hx hy
    have he : rdOf ByteArray.empty a (both a b : Int) = a[both a b]'h.1 := by simp [rdOf, h.1]
    have he2 : rdOf ByteArray.empty b (both a b : Int) = b[both a b]'h.2 := by simp [rdOf, h.2]
    rw [he] at hx
    rw [he2] at hy
    clear he he2
    obtain ⟨h3, h4⟩ := h
    generalize a[both a b]'h3 = x at *
    generalize b[both a b]'h4 = y at *
    have HC := Lib.hid (fun W => Tryd.strings_Compare x y W)
    have HQ2 := Lib.hid HQ
    clear HQ hr hs hk1 hk2
    generalize compareBytes x.data.toList y.data.toList = r at *
    generalize both a b = k at *
    have g1 : decide ((k : Int) < (a.length : Int)) = true := decide_eq_true (by omega)
    have g2 : decide ((k : Int) < (b.length : Int)) = true := decide_eq_true (by omega)
    have g3 : (k : Int) < (a.length : Int) := by omega
    have g4 : (k : Int) < (b.length : Int) := by omega
    go_enter Tryd.func22, Tryd.ntmps22
    go_wp2_with fail
    refine H1.out.mono ?_
    rintro e w1 ⟨rfl, n1, rfl⟩
    go_wp2_with fail
    go_quiet ((go_at_call 45; exact qcall (HC.out _)))
    all_goals
      go_wp2_with fail
      go_ret
      first | exact ⟨by rw [HQ2.out]; rfl, _, rfl⟩ | exact ⟨by rw [HQ2.out]; rfl, _, World.drewN_drewN _ _ _⟩
  · rw [dif_neg h] at HQ
    have HQ2 := Lib.hid HQ
    have HC := Lib.hid (fun W => Tryd.cmp_Compare_int (a.length : Int) (b.length : Int) W)
    clear HQ hr hs
    generalize compareInt (a.length : Int) (b.length : Int) = r at *
    generalize both a b = k at *
    go_enter Tryd.func22, Tryd.ntmps22
    go_wp2_with fail
    refine H1.out.mono ?_
    rintro e w1 ⟨rfl, n1, rfl⟩
    by_cases h1 : k < a.length
    · have h2 : ¬ k < b.length := fun h2 => h ⟨h1, h2⟩
      have g1 : decide ((k : Int) < (a.length : Int)) = true := decide_eq_true (by omega)
      have g2 : decide ((k : Int) < (b.length : Int)) = false := decide_eq_false (by omega)
      have g3 : (k : Int) < (a.length : Int) := by omega
      have g4 : ¬ (k : Int) < (b.length : Int) := by omega
      go_wp2_with fail
      refine (HC.out _).mono ?_
      rintro e w2 ⟨rfl, hw2⟩
      rw [hw2]
      go_wp2_with fail
      go_ret
      exact ⟨by rw [HQ2.out]; rfl, n1, rfl⟩
    · have g1 : decide ((k : Int) < (a.length : Int)) = false := decide_eq_false (by omega)
      have g3 : ¬ (k : Int) < (a.length : Int) := by omega
      go_wp2_with fail
      refine (HC.out _).mono ?_
      rintro e w2 ⟨rfl, hw2⟩
      rw [hw2]
      go_wp2_with fail
      go_ret
      exact ⟨by rw [HQ2.out]; rfl, n1, rfl⟩

/-! ### begins -/
def abL : List ByteArray := [⟨#[97]⟩, ⟨#[98]⟩]
def acL : List ByteArray := [⟨#[97]⟩, ⟨#[99]⟩]
theorem right_ab : rightB abL = true := by decide
theorem begins_norm : normR abL ⟨#[46, 46, 47, 99, 47]⟩ = (acL, true, 0) := by
  have hp : partsL ⟨#[46, 46, 47, 99, 47]⟩ = [dots, ⟨#[99]⟩, ⟨#[]⟩] := rfl
  have h1 : stepAt abL dots = [⟨#[97]⟩] := by rw [step_dots]; rfl
  have h2 : stepAt [⟨#[97]⟩] ⟨#[99]⟩ = acL := stepAt_name (by decide)
  have hf : (partsL ⟨#[46, 46, 47, 99, 47]⟩).foldl stepAt (startL abL ⟨#[46, 46, 47, 99, 47]⟩) = acL := by
    rw [hp, show startL abL ⟨#[46, 46, 47, 99, 47]⟩ = abL from rfl, List.foldl_cons, List.foldl_cons, List.foldl_cons, h1, h2, step_empty]
    rfl
  have hok : NormOK abL ⟨#[46, 46, 47, 99, 47]⟩ := by
    refine ⟨right_ab, by decide, by rw [show (⟨#[46, 46, 47, 99, 47]⟩ : ByteArray).toList = [46, 46, 47, 99, 47] from toList_mk _]; rfl, by decide, by rw [hp]; rfl, by rw [hf]; decide⟩
  rw [normR_of hok, hf, hp]
  have : (⟨#[]⟩ : ByteArray).toList = [] := toList_mk []
  show (acL, dirB ⟨#[]⟩, 0) = (acL, true, 0)
  rw [dirB, this]
  rfl
theorem right_ac : rightB acL = true := by decide
theorem print_ac : printR acL = ([47, 97, 47, 99], 0) := by
  unfold printR
  rw [right_ac]
  rfl
theorem within_ac1 : withinB acL [⟨#[97]⟩] = true := by decide
theorem within_ac2 : withinB acL [⟨#[98]⟩] = false := by decide
theorem C_of_box {W : World} {g : Nat} {cells : Array Value} {l : List ByteArray} (h : W.heap[g]? = some (.cells cells 9 (0, 0))) (hl : cells.toList = l.map Value.string) (hn : l.length ≤ 1048576) : Kd.C Kd.string W (some ⟨g, 0, none⟩) l.length l := by
  refine Kd.C_of_reads (d := ByteArray.empty) (h1 := fun _ => rfl) ⟨rfl, by omega, fun _ => ⟨_, rfl, fun j hj => ?_⟩⟩
  have hz : cells[j]? = some (.string (l.getD j ByteArray.empty)) := by
    rw [← Array.getElem?_toList, hl, List.getElem?_map, List.getElem?_eq_getElem hj]
    simp [List.getD, hj]
  rcases Nat.eq_zero_or_pos j with rfl | h0
  · simpa [Addr.add, World.cell?, h] using hz
  · have hj0 : ¬ j = 0 := by omega
    simpa [Addr.add, World.cell?, h, hj0] using hz

set_option maxHeartbeats 8000000 in
set_option maxRecDepth 100000 in
theorem begins_calls (w : World) :
    Calls Tryd.prog 15 #[] w fun e w' => e = .returned (.bool true) ∧ Below w.heap.size w w' := by
  go_enter Tryd.func15, Tryd.ntmps15
  go_wp2_with fail
  have b0 := World.alloc_heap_new w (.cells #[.string ⟨#[97]⟩, .string ⟨#[98]⟩] 9)
  have hC0 := C_of_box (l := abL) b0 rfl (by decide)
  have hb0 : Below w.heap.size w (w.alloc (.cells #[.string ⟨#[97]⟩, .string ⟨#[98]⟩] 9)) := (Below.refl _ w).alloc (Nat.le_refl _) _
  have HN := normal_calls (some ⟨w.heap.size, 0, none⟩) 2 abL ⟨#[46, 46, 47, 99, 47]⟩ _ hC0 (by decide) (by decide) (by decide)
  rw [begins_norm] at HN
  refine HN.mono ?_
  rintro e w1 ⟨v1, rfl, ho, hb⟩
  obtain ⟨A1, c1, rfl, hc1, hC1⟩ := Kd.R_reads ho
  have hbb := bstep hb0 hb0.size hb
  have HC1 := Lib.hid hC1
  clear ho hC1 hb0 hC0 b0 hb HN
  go_wp2_with fail
  have HP := print_calls A1 c1 acL _ HC1.out hc1 (by decide) (by decide)
  rw [print_ac] at HP
  refine HP.mono ?_
  rintro e w2 ⟨rfl, hb2⟩
  have HC2 := Lib.hid (Kd.C_below HC1.out hb2)
  have hbc := bstep hbb hbb.size hb2
  clear HP HC1 hbb hb2
  go_wp2_with fail
  have b1 := World.alloc_heap_new w2 (.cells #[.string ⟨#[97]⟩] 9)
  have hw := (Below.refl _ w2).alloc (Nat.le_refl _) (.cells #[.string ⟨#[97]⟩] 9)
  have H1 := within_calls A1 c1 acL (some ⟨w2.heap.size, 0, none⟩) 1 [⟨#[97]⟩] _ (Kd.C_below HC2.out hw) hc1 (C_of_box b1 rfl (by decide)) (by decide) (by decide)
  rw [within_ac1] at H1
  refine H1.mono ?_
  rintro e w3 ⟨rfl, n3, hw3⟩
  have HC3 : Hid (Kd.C Kd.string w3 A1 acL.length acL) := Lib.hid (by rw [hw3]; exact Kd.C_below (Kd.C_below HC2.out hw) (bdrewN (Below.refl _ _) n3))
  have hbd : Below w.heap.size w w3 := by rw [hw3]; exact bdrewN (bstep hbc hbc.size hw) n3
  clear H1 hw b1 HC2 hbc hw3
  go_wp2_with fail
  have b1 := World.alloc_heap_new w3 (.cells #[.string ⟨#[98]⟩] 9)
  have hw := (Below.refl _ w3).alloc (Nat.le_refl _) (.cells #[.string ⟨#[98]⟩] 9)
  have H1 := within_calls A1 c1 acL (some ⟨w3.heap.size, 0, none⟩) 1 [⟨#[98]⟩] _ (Kd.C_below HC3.out hw) hc1 (C_of_box b1 rfl (by decide)) (by decide) (by decide)
  rw [within_ac2] at H1
  refine H1.mono ?_
  rintro e w4 ⟨rfl, n4, hw4⟩
  have hbe : Below w.heap.size w w4 := by rw [hw4]; exact bdrewN (bstep hbd hbd.size hw) n4
  have hbe2 := bdrewN (bstep hbd hbd.size hw) n4
  clear H1 b1 HC3
  go_wp2_with fail
  go_ret
  exact ⟨rfl, by first | exact hbe | exact hbe2⟩
end Go.Proofs.YtdhchmonmbppmaaDoor.G
