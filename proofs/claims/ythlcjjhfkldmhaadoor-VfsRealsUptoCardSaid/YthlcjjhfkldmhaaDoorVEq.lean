/- slices.Equal at two paths. -/
import Derived.Test.YthlcjjhfkldmhaaDoorVRealP
import Derived.BigQuiet
set_option linter.unusedVariables false
set_option linter.unusedSimpArgs false
namespace Go.Proofs.YthlcjjhfkldmhaaDoor.G
open Go.RowKit Go.Lib Go.Proofs.YthlcjjhfkldmhaaDoorW.PrintWords Go.Proofs.YthlcjjhfkldmhaaDoorW.PrintLast
set_option linter.unusedVariables false

theorem toList_injV {x y : ByteArray} : x.toList = y.toList ↔ x = y := by
  rw [Lib.toList_data, Lib.toList_data]
  constructor
  · intro h
    exact ByteArray.ext (Array.toList_inj.1 h)
  · rintro rfl; rfl
/-- The walk's own state: the first k names are alike. -/
def AlikeV (a b : List ByteArray) (k : Nat) : Prop := ∀ j : Nat, j < k → rdOf ByteArray.empty a (j : Int) = rdOf ByteArray.empty b (j : Int)
theorem AlikeV.all {a b : List ByteArray} (hl : a.length = b.length) (h : AlikeV a b a.length) : a = b :=
  List.ext_getElem hl fun j h1 h2 => by
    have h3 := h j h1
    simpa [rdOf, h1, h2] using h3
theorem AlikeV.not {a b : List ByteArray} {k : Nat} (h : rdOf ByteArray.empty a (k : Int) ≠ rdOf ByteArray.empty b (k : Int)) : ¬ a = b := fun e => h (by rw [e])

set_option maxHeartbeats 4000000 in
theorem eqP_calls (A : Option Addr) (c : Nat) (a : List ByteArray) (B : Option Addr) (d : Nat) (b : List ByteArray) (w : World) (hr : Kd.C Kd.string w A a.length a) (hc : a.length ≤ c) (hs : Kd.C Kd.string w B b.length b) (hd : b.length ≤ d) (hl : a.length ≤ 8796093022208) :
    Calls Tryd.prog 85 #[.slice A a.length c, .slice B b.length d] w fun e w' => e = .returned (.bool (decide (a = b))) ∧ ∃ n, w' = w.drewN n := by
  have HR := Lib.hid hr
  have HS := Lib.hid hs
  by_cases hab : a.length = b.length
  · have HE := Lib.hid hab
    have hk2 : a.length ≤ b.length := Nat.le_of_eq hab
    rw [← hab]
    clear hr hs hab
    go_enter Tryd.func85, Tryd.ntmps85
    go_wp2
    go_loopw [13] (fun i wr => ∃ k n : Nat, k ≤ a.length ∧ i = .int .i64 k ∧ wr = w.drewN n ∧ Hid (AlikeV a b k)) (fun i _ => a.length - (RowKit.intOf i).toNat)
    case atStart => exact ⟨0, 0, by omega, rfl, rfl, Lib.hid (fun j hj => by omega)⟩
    case round =>
      obtain ⟨k, n, hk1, rfl, rfl, HA⟩ := hrel
      by_cases q1 : k < a.length
      · have z1 : decide ((k : Int) < (a.length : Int)) = true := decide_eq_true (by omega)
        obtain ⟨ad, rfl, hx⟩ := Kd.at_string HR.out (k : Int) (by omega) (by omega)
        obtain ⟨bd, rfl, hy⟩ := Kd.at_string HS.out (k : Int) (by omega) (by omega)
        rw [Int.toNat_natCast] at hx hy
        obtain ⟨x, hxe⟩ : ∃ x, rdOf ByteArray.empty a (k : Int) = x := ⟨_, rfl⟩
        obtain ⟨y, hye⟩ : ∃ y, rdOf ByteArray.empty b (k : Int) = y := ⟨_, rfl⟩
        rw [hxe] at hx
        rw [hye] at hy
        have HX := Lib.hid hxe
        have HY := Lib.hid hye
        clear hxe hye
        by_cases q3 : x = y
        · have z3 : (x.toList == y.toList) = true := beq_iff_eq.2 (toList_injV.2 q3)
          have H3 := Lib.hid q3
          clear q3
          go_wp2
          go_quiet (fail)
          go_wp2
          go_roundw
          case rel => exact ⟨k + 1, _, by omega, by go_num, by first | rfl | (simp only [World.drewN_drewN]; rfl), Lib.hid (fun j hj => by
            by_cases e : j = k
            · subst e; rw [HX.out, HY.out]; exact H3.out
            · exact HA.out j (by omega))⟩
          case measure => simp [RowKit.intOf]; omega
        · have z3 : (x.toList == y.toList) = false := beq_eq_false_iff_ne.2 (fun h => q3 (toList_injV.1 h))
          have H3 := Lib.hid q3
          clear q3
          go_wp2
          go_quiet (fail)
          go_wp2
          go_ret
          exact ⟨by rw [decide_eq_false (AlikeV.not (k := k) (by rw [HX.out, HY.out]; exact H3.out))]; rfl, _, by first | rfl | (simp only [World.drewN_drewN]; rfl)⟩
      · have z1 : decide ((k : Int) < (a.length : Int)) = false := decide_eq_false (by omega)
        have hkk : k = a.length := by omega
        have HK := Lib.hid hkk
        clear hkk
        go_wp2
        go_ret
        exact ⟨by rw [decide_eq_true (AlikeV.all HE.out (by have := HA.out; rw [HK.out] at this; exact this))]; rfl, _, by first | rfl | (simp only [World.drewN_drewN]; rfl)⟩
  · have hnm : ¬ (a.length : Int) = (b.length : Int) := by omega
    have HN := Lib.hid (show ¬ a = b from fun e => hab (by rw [e]))
    clear hr hs hab
    go_enter Tryd.func85, Tryd.ntmps85
    go_wp2
    go_ret
    exact ⟨by rw [decide_eq_false HN.out]; rfl, 0, rfl⟩
theorem eqP_below (A : Option Addr) (c : Nat) (a : List ByteArray) (B : Option Addr) (d : Nat) (b : List ByteArray) (w : World) (hr : Kd.C Kd.string w A a.length a) (hc : a.length ≤ c) (hs : Kd.C Kd.string w B b.length b) (hd : b.length ≤ d) (hl : a.length ≤ 8796093022208) :
    Calls Tryd.prog 85 #[.slice A a.length c, .slice B b.length d] w fun e w' => e = .returned (.bool (decide (a = b))) ∧ Below w.heap.size w w' :=
  (eqP_calls A c a B d b w hr hc hs hd hl).mono (by
    rintro e w' ⟨h1, n, rfl⟩
    exact ⟨h1, bdrewN (Below.refl _ _) n⟩)
end Go.Proofs.YthlcjjhfkldmhaaDoor.G
