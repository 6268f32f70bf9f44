/- Inside, the program's and the reference's. -/
import Derived.Test.YtdhchmonmbppmaaDoorLists
import Derived.RangeFuncBox
namespace Go.Proofs.YtdhchmonmbppmaaDoor.G
open Go.RowKit Go.Lib Go.Proofs.YtdhchmonmbppmaaDoorW.PrintWords Go.Proofs.YtdhchmonmbppmaaDoorW.PrintLast
set_option linter.unusedVariables false

def insideB (ll : List (List ByteArray)) (p : List ByteArray) : Bool := ll.any fun x => withinB p x
theorem inside_hit {ll : List (List ByteArray)} {p : List ByteArray} {k : Nat} (hk : k < ll.length) (h : withinB p ll[k] = true) : insideB ll p = true :=
  List.any_eq_true.2 ⟨ll[k], List.getElem_mem hk, h⟩
theorem inside_none {ll : List (List ByteArray)} {p : List ByteArray} (h : ∀ j (h1 : j < ll.length), withinB p ll[j] = false) : insideB ll p = false := by
  refine List.any_eq_false.2 fun x hx => ?_
  obtain ⟨j, h1, rfl⟩ := List.mem_iff_getElem.1 hx
  rw [h j h1]
  simp

set_option maxHeartbeats 4000000 in
theorem rinside_calls (A : Option Addr) (c : Nat) (ll : List (List ByteArray)) (B : Option Addr) (d : Nat) (p : List ByteArray) (w : World) (hr : Kd.C PathK w A ll.length ll) (hc : ll.length ≤ c) (hl : ll.length ≤ 1099511627776) (hs : Kd.C Kd.string w B p.length p) (hd : p.length ≤ d) (hl2 : p.length ≤ 1099511627776) :
    Calls Tryd.prog 30 #[.slice A ll.length c, .slice B p.length d] w fun e w' => e = .returned (.bool (insideB ll p)) ∧ ∃ n, w' = w.drewN n := by
  have HR := Lib.hid hr
  have HS := Lib.hid hs
  clear hr hs
  go_enter Tryd.func30, Tryd.ntmps30
  go_wp2
  go_loopw [5] (fun i wr => ∃ k n : Nat, k ≤ ll.length ∧ i = .int .i64 k ∧ wr = w.drewN n ∧ Hid (∀ j (h1 : j < ll.length), j < k → withinB p ll[j] = false)) (fun i _ => ll.length - (RowKit.intOf i).toNat)
  case atStart => exact ⟨0, 0, by omega, rfl, rfl, Lib.hid (fun j _ h => by omega)⟩
  case round =>
    obtain ⟨k, n, hk, rfl, rfl, HN⟩ := hrel
    by_cases hlt : k < ll.length
    · obtain ⟨ad, A', c', rfl, hx, hc', hC'⟩ := path_at HR.out k hlt
      have HX := Lib.hid (rwithin_calls B d p A' c' ll[k] (w.drewN n) (Kd.C_below HS.out (bdrewN (Below.refl _ _) _)) hd (Kd.C_below hC' (bdrewN (Below.refl _ _) _)) hc' (by omega))
      have HE : Hid (∀ b, withinB p ll[k] = b → (b = false → ∀ j (h1 : j < ll.length), j < k + 1 → withinB p ll[j] = false) ∧ (b = true → insideB ll p = true)) := Lib.hid (by
        intro b hb
        refine ⟨fun e j h1 h3 => ?_, fun e => inside_hit hlt (by rw [hb, e])⟩
        by_cases hj : j < k
        · exact HN.out j h1 hj
        · obtain rfl : j = k := by omega
          rw [hb, e])
      clear hC' HN
      generalize withinB p ll[k] = sb at *
      generalize ll[k].length = n1 at *
      go_wp2_with fail
      refine HX.out.mono ?_
      rintro e w1 ⟨rfl, m, rfl⟩
      cases sb
      · go_wp2_with fail
        go_roundw
        case rel => exact ⟨k + 1, n + m, by omega, by go_num, by first | rfl | exact World.drewN_drewN _ _ _, Lib.hid ((HE.out _ rfl).1 rfl)⟩
        case measure => simp [RowKit.intOf]; omega
      · go_wp2_with fail
        go_ret
        exact ⟨by rw [(HE.out _ rfl).2 rfl]; rfl, _, by first | rfl | exact World.drewN_drewN _ _ _⟩
    · obtain rfl : k = ll.length := by omega
      go_wp2
      go_ret
      exact ⟨by rw [inside_none (fun j h1 => HN.out j h1 h1)]; rfl, n, rfl⟩

/-! ### The program's, through slices.ContainsFunc and a closure -/
set_option maxHeartbeats 2000000 in
theorem insideFn_calls (A' : Option Addr) (c' : Nat) (x : List ByteArray) (N : Nat) (B : Option Addr) (d : Nat) (p : List ByteArray) (w : World) (hb : Boxed w N 23 (.slice B p.length d)) (hs : Kd.C Kd.string w B p.length p) (hd : p.length ≤ d) (hl2 : p.length ≤ 1099511627776) (hC : Kd.C Kd.string w A' x.length x) (hc : x.length ≤ c') :
    Calls Tryd.prog 50 #[.slice A' x.length c', .pointer (some ⟨N, 0, none⟩)] w fun e w' => e = .returned (.bool (withinB p x)) ∧ ∃ n, w' = w.drewN n := by
  have H1 := Lib.hid (within_calls B d p A' c' x w hs hd hC hc (by omega))
  have c0 := hb.cell
  clear hb hs hC
  go_enter Tryd.func50, Tryd.ntmps50
  go_wp2_with fail
  refine H1.out.mono ?_
  rintro e w1 ⟨rfl, n, rfl⟩
  go_wp2_with fail
  go_ret
  exact ⟨rfl, n, rfl⟩

set_option maxHeartbeats 4000000 in
theorem indexIn_calls (A : Option Addr) (c : Nat) (ll : List (List ByteArray)) (N : Nat) (B : Option Addr) (d : Nat) (p : List ByteArray) (w : World) (hr : Kd.C PathK w A ll.length ll) (hc : ll.length ≤ c) (hl : ll.length ≤ 1099511627776) (hb : Boxed w N 23 (.slice B p.length d)) (hs : Kd.C Kd.string w B p.length p) (hd : p.length ≤ d) (hl2 : p.length ≤ 1099511627776) :
    Calls Tryd.prog 63 #[.slice A ll.length c, .func (.func 50) #[] #[.pointer (some ⟨N, 0, none⟩)]] w fun e w' => ∃ m : Int, e = .returned (.int .i64 m) ∧ decide (m ≥ 0) = insideB ll p ∧ ∃ n, w' = w.drewN n := by
  have HR := Lib.hid hr
  have HS := Lib.hid hs
  have HB := Lib.hid hb
  clear hr hs hb
  go_enter Tryd.func63, Tryd.ntmps63
  go_wp2
  go_loopw [8] (fun i wr => ∃ k n : Nat, k ≤ ll.length ∧ i = .int .i64 k ∧ wr = w.drewN n ∧ Hid (∀ j (h1 : j < ll.length), j < k → withinB p ll[j] = false)) (fun i _ => ll.length - (RowKit.intOf i).toNat)
  case atStart => exact ⟨0, 0, by omega, rfl, rfl, Lib.hid (fun j _ h => by omega)⟩
  case round =>
    obtain ⟨k, n, hk, rfl, rfl, HN⟩ := hrel
    by_cases hlt : k < ll.length
    · obtain ⟨ad, A', c', rfl, hx, hc', hC'⟩ := path_at HR.out k hlt
      have HX := Lib.hid (insideFn_calls A' c' ll[k] N B d p (w.drewN n) HB.out (Kd.C_below HS.out (bdrewN (Below.refl _ _) _)) hd hl2 (Kd.C_below hC' (bdrewN (Below.refl _ _) _)) hc')
      have HE : Hid (∀ b, withinB p ll[k] = b → (b = false → ∀ j (h1 : j < ll.length), j < k + 1 → withinB p ll[j] = false) ∧ (b = true → insideB ll p = true)) := Lib.hid (by
        intro b hb
        refine ⟨fun e j h1 h3 => ?_, fun e => inside_hit hlt (by rw [hb, e])⟩
        by_cases hj : j < k
        · exact HN.out j h1 hj
        · obtain rfl : j = k := by omega
          rw [hb, e])
      clear hC' HN
      generalize withinB p ll[k] = sb at *
      generalize ll[k].length = n1 at *
      go_wp2_with fail
      refine HX.out.mono ?_
      rintro e w1 ⟨rfl, m, rfl⟩
      cases sb
      · go_wp2_with fail
        go_roundw
        case rel => exact ⟨k + 1, n + m, by omega, by go_num, by first | rfl | exact World.drewN_drewN _ _ _, Lib.hid ((HE.out _ rfl).1 rfl)⟩
        case measure => simp [RowKit.intOf]; omega
      · go_wp2_with fail
        go_ret
        exact ⟨k, rfl, by rw [(HE.out _ rfl).2 rfl]; exact decide_eq_true (by omega), _, by first | rfl | exact World.drewN_drewN _ _ _⟩
    · obtain rfl : k = ll.length := by omega
      go_wp2
      go_ret
      exact ⟨-1, rfl, by rw [inside_none (fun j h1 => HN.out j h1 h1)]; rfl, n, rfl⟩

set_option maxHeartbeats 4000000 in
theorem inside_calls (A : Option Addr) (c : Nat) (ll : List (List ByteArray)) (B : Option Addr) (d : Nat) (p : List ByteArray) (w : World) (hr : Kd.C PathK w A ll.length ll) (hc : ll.length ≤ c) (hl : ll.length ≤ 1099511627776) (hs : Kd.C Kd.string w B p.length p) (hd : p.length ≤ d) (hl2 : p.length ≤ 1099511627776) :
    Calls Tryd.prog 29 #[.slice A ll.length c, .slice B p.length d] w fun e w' => e = .returned (.bool (insideB ll p)) ∧ Below w.heap.size w w' := by
  have hbw := (Below.refl _ w).alloc (Nat.le_refl _) (.cells #[.slice B p.length d] 23)
  have hbx := Boxed.new w 23 (.slice B p.length d)
  have H1 := Lib.hid (indexIn_calls A c ll w.heap.size B d p _ (Kd.C_below hr hbw) hc hl hbx (Kd.C_below hs hbw) hd hl2)
  have HC : Hid (Calls Tryd.prog 49 #[.slice A ll.length c, .func (.func 50) #[] #[.pointer (some ⟨w.heap.size, 0, none⟩)]] (w.alloc (.cells #[.slice B p.length d] 23)) fun e w' => e = .returned (.bool (insideB ll p)) ∧ Below w.heap.size w w') := Lib.hid (by
    clear hr hs hbx
    generalize insideB ll p = ib at *
    generalize w.alloc (.cells #[.slice B p.length d] 23) = W at *
    go_enter Tryd.func49, Tryd.ntmps49
    go_wp2_with fail
    refine H1.out.mono ?_
    rintro e w1 ⟨m, rfl, hm, n, rfl⟩
    go_wp2_with fail
    go_ret
    exact ⟨by rw [← hm]; rfl, bdrewN hbw n⟩)
  clear hr hs hbx H1
  generalize insideB ll p = ib at *
  go_enter Tryd.func29, Tryd.ntmps29
  go_wp2_with fail
  refine HC.out.mono ?_
  rintro e w1 ⟨rfl, hb⟩
  go_wp2_with fail
  go_ret
  exact ⟨rfl, hb⟩
end Go.Proofs.YtdhchmonmbppmaaDoor.G
