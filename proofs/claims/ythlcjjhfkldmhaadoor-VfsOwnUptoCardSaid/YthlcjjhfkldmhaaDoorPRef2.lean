/- The reference's Name, size, Right, Copy and Same, by the same plain functions as the program's. (chapter 02, in a namespace of its own) -/
import Derived.Test.YthlcjjhfkldmhaaDoorPCore
import Derived.BigQuiet
set_option linter.unusedVariables false
set_option linter.unusedSimpArgs false
section
namespace Go.Proofs.YthlcjjhfkldmhaaDoor.P
section
open Go.RowKit Go.Lib Go.Proofs.YthlcjjhfkldmhaaDoorW.PrintWords Go.Proofs.YthlcjjhfkldmhaaDoorW.PrintLast Go.Proofs.YthlcjjhfkldmhaaDoor.G
set_option linter.unusedVariables false
set_option linter.unusedSimpArgs false

def both : List ByteArray → List ByteArray → Nat
  | x :: a, y :: b => if x = y then both a b + 1 else 0
  | _, _ => 0
/-- The walk's own state: the first k names are alike. -/
def Alike (a b : List ByteArray) (k : Nat) : Prop := ∀ j : Nat, j < k → rdOf ByteArray.empty a (j : Int) = rdOf ByteArray.empty b (j : Int)
theorem both_of : ∀ {a b : List ByteArray} {k : Nat}, k ≤ a.length → k ≤ b.length → Alike a b k → (k < a.length → k < b.length → rdOf ByteArray.empty a (k : Int) ≠ rdOf ByteArray.empty b (k : Int)) → both a b = k
  | [], _, k, h1, _, _, _ => by simp at h1; subst h1; simp [both]
  | x :: a, [], k, _, h2, _, _ => by simp at h2; subst h2; simp [both]
  | x :: a, y :: b, 0, _, _, _, hn => by
    have := hn (by simp) (by simp)
    simp [rdOf] at this
    simp [both, this]
  | x :: a, y :: b, k + 1, h1, h2, h, hn => by
    have h0 := h 0 (by omega)
    simp [rdOf] at h0
    have := both_of (a := a) (b := b) (k := k) (by simpa using h1) (by simpa using h2) (fun j hj => by
      have := h (j + 1) (by omega)
      simpa [rdOf] using this) (fun q1 q2 => by
      have := hn (by simpa using q1) (by simpa using q2)
      simpa [rdOf] using this)
    simp [both, h0, this]

set_option maxHeartbeats 4000000 in
theorem rboth_calls (A : Option Addr) (c : Nat) (a : List ByteArray) (B : Option Addr) (d : Nat) (b : List ByteArray) (w : World) (hr : Kd.C Kd.string w A a.length a) (hc : a.length ≤ c) (hs : Kd.C Kd.string w B b.length b) (hd : b.length ≤ d) (hl : a.length ≤ 8796093022208) :
    Calls Tryd.prog 37 #[.slice A a.length c, .slice B b.length d] w fun e w' => e = .returned (.int .i64 (both a b)) ∧ ∃ n, w' = w.drewN n := by
  have HR := Lib.hid hr
  have HS := Lib.hid hs
  clear hr hs
  go_enter Tryd.func37, Tryd.ntmps37
  go_wp2
  go_loopw [5] (fun i wr => ∃ k n : Nat, k ≤ a.length ∧ k ≤ b.length ∧ i = .int .i64 k ∧ wr = w.drewN n ∧ Hid (Alike a b k)) (fun i _ => a.length - (RowKit.intOf i).toNat)
  case atStart => exact ⟨0, 0, by omega, by omega, rfl, rfl, Lib.hid (fun j hj => by omega)⟩
  case round =>
    obtain ⟨k, n, hk1, hk2, rfl, rfl, HA⟩ := hrel
    by_cases q1 : k < a.length
    · have z1 : decide ((k : Int) < (a.length : Int)) = true := decide_eq_true (by omega)
      by_cases q2 : k < b.length
      · have z2 : decide ((k : Int) < (b.length : Int)) = true := decide_eq_true (by omega)
        obtain ⟨ad, rfl, hx⟩ := Kd.at_string HR.out (k : Int) (by omega) (by omega)
        obtain ⟨bd, rfl, hy⟩ := Kd.at_string HS.out (k : Int) (by omega) (by omega)
        rw [Int.toNat_natCast] at hx hy
        obtain ⟨x, hxe⟩ : ∃ x, rdOf ByteArray.empty a (k : Int) = x := ⟨_, rfl⟩
        obtain ⟨y, hye⟩ : ∃ y, rdOf ByteArray.empty b (k : Int) = y := ⟨_, rfl⟩
        rw [hxe] at hx
        rw [hye] at hy
        have HX := Lib.hid hxe
        have HY := Lib.hid hye
        clear hxe hye
        by_cases q3 : x = y
        · have z3 : (x.toList == y.toList) = true := beq_iff_eq.2 (toList_inj.2 q3)
          have H3 := Lib.hid q3
          clear q3
          go_wp2
          go_quiet (fail)
          go_wp2
          go_roundw
          case rel => exact ⟨k + 1, _, by omega, by omega, by go_num, by first | rfl | (simp only [World.drewN_drewN]; rfl), Lib.hid (fun j hj => by
            by_cases e : j = k
            · subst e; rw [HX.out, HY.out]; exact H3.out
            · exact HA.out j (by omega))⟩
          case measure => simp [RowKit.intOf]; omega
        · have z3 : (x.toList == y.toList) = false := beq_eq_false_iff_ne.2 (fun h => q3 (toList_inj.1 h))
          have H3 := Lib.hid q3
          clear q3
          go_wp2
          go_quiet (fail)
          go_wp2
          go_ret
          exact ⟨by rw [both_of hk1 hk2 HA.out (fun _ _ => by rw [HX.out, HY.out]; exact H3.out)]; rfl, _, by first | rfl | (simp only [World.drewN_drewN]; rfl)⟩
      · have z2 : decide ((k : Int) < (b.length : Int)) = false := decide_eq_false (by omega)
        go_wp2
        go_quiet (fail)
        go_wp2
        go_ret
        exact ⟨by rw [both_of hk1 hk2 HA.out (fun _ h => absurd h q2)]; rfl, _, by first | rfl | (simp only [World.drewN_drewN]; rfl)⟩
    · have z1 : decide ((k : Int) < (a.length : Int)) = false := decide_eq_false (by omega)
      go_wp2
      go_quiet (fail)
      go_wp2
      go_ret
      exact ⟨by rw [both_of hk1 hk2 HA.out (fun h => absurd h q1)]; rfl, _, by first | rfl | (simp only [World.drewN_drewN]; rfl)⟩
end
end Go.Proofs.YthlcjjhfkldmhaaDoor.P
end
section
namespace Go.Proofs.YthlcjjhfkldmhaaDoor.P
section
open Go.RowKit Go.Lib Go.Proofs.YthlcjjhfkldmhaaDoorW.PrintWords Go.Proofs.YthlcjjhfkldmhaaDoorW.PrintLast Go.Proofs.YthlcjjhfkldmhaaDoor.G
set_option linter.unusedVariables false
set_option linter.unusedSimpArgs false

/-! ### Name -/
/-! ### size -/
/-! ### Right -/
/-! ### Copy, Same -/
set_option maxHeartbeats 2000000 in
set_option maxRecDepth 100000 in
theorem rcopy_calls (A : Option Addr) (c : Nat) (l : List ByteArray) (w : World) (hr : Kd.C Kd.string w A l.length l) (hc : l.length ≤ c) (hl : l.length ≤ 4398046511104) :
    Calls Tryd.prog 11 #[.slice A l.length c] w fun e w' => ∃ v, e = .returned v ∧ Kd.R Kd.string 9 w' w.heap.size (fun _ => True) v l ∧ Below w.heap.size w w' := by
  have HR := Lib.hid hr
  clear hr
  go_enter Tryd.func11, Tryd.ntmps11
  go_wp2
  go_loopw [3, 4] (fun v i wr => ∃ k : Nat, k ≤ l.length ∧ i = .int .i64 k ∧ Hid (Kd.R Kd.string 9 wr w.heap.size (fun _ => True) v (l.take k)) ∧ Below w.heap.size w wr) (fun _ i _ => l.length - (RowKit.intOf i).toNat)
  case atStart => exact ⟨0, by omega, rfl, Lib.hid (Kd.R_nil _ _ _ _ _), Below.refl _ _⟩
  case round =>
    obtain ⟨k, hk, rfl, HO, hb⟩ := hrel
    have hsz := hb.size
    by_cases hlt : k < l.length
    · obtain ⟨ad, rfl, hx⟩ := Kd.at_string HR.out (k : Int) (by omega) (by omega)
      rw [Int.toNat_natCast] at hx
      have hx2 := (hb.cell (World.block_lt_of_cell? w _ hx)).trans hx
      clear hx
      have he : rdOf ByteArray.empty l (k : Int) = l[k] := by simp [rdOf, hlt]
      rw [he] at hx2
      have HT := Lib.hid (List.take_succ_eq_append_getElem hlt)
      have hlen : (l.take k).length = k := by rw [List.length_take]; omega
      have HL := Lib.hid hlen
      clear he hlen
      generalize l[k] = s at *
      go_wp2_with (at_builtin; refine Kd.R_append Kd.string (w0 := w) w.heap.size rfl (.tmp 11) (.tmp 16) 27 9 (.string ⟨#[]⟩) 16 rfl Tryd.underlying27 info_str rfl (by decide) (by decide) _ (l.take k) s [.string s] (fun _ => True) (fun _ => False) rfl rfl ?aP (fun _ hk => hk.elim) ?aF ?aO ?aB ?aS ?aL ?_; (case aP => exact rfl); (case aF => exact (fun _ _ => trivial)); (case aO => exact HO.out); (case aB => exact hb); (case aS => exact hsz); (case aL => rw [HL.out]; omega); intro v1 w1 ho hb1 hg hat)
      go_roundw
      case rel => exact ⟨k + 1, by omega, by go_num, Lib.hid (by rw [HT.out]; exact ho), hb1⟩
      case measure => simp [RowKit.intOf]; omega
    · obtain rfl : k = l.length := by omega
      go_wp2
      go_ret
      refine ⟨_, rfl, ?_, hb⟩
      have := HO.out
      rw [List.take_length] at this
      exact this

theorem both_self : ∀ l, both l l = l.length
  | [] => by simp [both]
  | x :: l => by simp [both, both_self l]
theorem both_full : ∀ {a b : List ByteArray}, a.length = b.length → both a b = a.length → a = b
  | [], [], _, _ => rfl
  | [], y :: b, h, _ => by simp at h
  | x :: a, [], h, _ => by simp at h
  | x :: a, y :: b, h, h2 => by
    rw [both] at h2
    split at h2
    · rename_i e
      rw [e, both_full (a := a) (b := b) (by simpa using h) (by simpa using h2)]
    · simp at h2
def sameB (a b : List ByteArray) : Bool := decide (a = b)
theorem sameB_eq (a b : List ByteArray) : sameB a b = (decide (a.length = b.length) && decide (both a b = a.length)) := by
  unfold sameB
  by_cases h : a = b
  · subst h; simp [both_self]
  · simp only [h, decide_false]
    by_cases h1 : a.length = b.length
    · by_cases h2 : both a b = a.length
      · exact absurd (both_full h1 h2) h
      · simp [h2]
    · simp [h1]

set_option maxHeartbeats 2000000 in
theorem rsame_calls (A : Option Addr) (c : Nat) (a : List ByteArray) (B : Option Addr) (d : Nat) (b : List ByteArray) (w : World) (hr : Kd.C Kd.string w A a.length a) (hc : a.length ≤ c) (hs : Kd.C Kd.string w B b.length b) (hd : b.length ≤ d) (hl : a.length ≤ 8796093022208) :
    Calls Tryd.prog 15 #[.slice A a.length c, .slice B b.length d] w fun e w' => e = .returned (.bool (sameB a b)) ∧ ∃ n, w' = w.drewN n := by
  have H1 := Lib.hid (fun W h1 h2 => rboth_calls A c a B d b W h1 hc h2 hd hl)
  have HR := Lib.hid hr
  have HS := Lib.hid hs
  clear hr hs
  have HQ := Lib.hid (sameB_eq a b)
  generalize sameB a b = R at *
  by_cases q1 : a.length = b.length
  · have z1 : ((a.length : Int) == (b.length : Int)) = true := beq_iff_eq.2 (by omega)
    have z1' : (a.length == b.length) = true := beq_iff_eq.2 q1
    have HQ2 := Lib.hid (show R = ((both a b : Int) == (a.length : Int)) by
      rw [HQ.out, q1]
      simp
      rw [Bool.eq_iff_iff, decide_eq_true_iff, beq_iff_eq]
      omega)
    clear HQ q1
    generalize both a b = n at *
    go_enter Tryd.func15, Tryd.ntmps15
    go_wp2_with (go_at_call 37; refine (H1.out _ HR.out HS.out).mono ?_; rintro e w' ⟨rfl, n, rfl⟩)
    go_ret
    exact ⟨by rw [HQ2.out]; rfl, _, rfl⟩
  · have z1 : ((a.length : Int) == (b.length : Int)) = false := beq_eq_false_iff_ne.2 (by omega)
    have z1' : (a.length == b.length) = false := beq_eq_false_iff_ne.2 q1
    have HQ2 := Lib.hid (show R = false by rw [HQ.out]; simp [q1])
    clear HQ q1
    go_enter Tryd.func15, Tryd.ntmps15
    go_wp2
    go_ret
    exact ⟨by rw [HQ2.out]; rfl, 0, rfl⟩
end
end Go.Proofs.YthlcjjhfkldmhaaDoor.P
end
