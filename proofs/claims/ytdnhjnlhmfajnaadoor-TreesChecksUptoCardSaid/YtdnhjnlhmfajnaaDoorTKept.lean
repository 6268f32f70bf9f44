/- paddockref03.Paths, kept of the law. -/
import Derived.Test.YtdnhjnlhmfajnaaDoorTList
namespace Go.Proofs.YtdnhjnlhmfajnaaDoor.G
open Go.RowKit Go.Lib Go.Proofs.YtdnhjnlhmfajnaaDoorW.PrintWords Go.Proofs.YtdnhjnlhmfajnaaDoorW.PrintLast
set_option linter.unusedVariables false
set_option linter.unusedSimpArgs false

theorem eq_upto {α : Type} {a b : List α} (hl : a.length = b.length) (h : ∀ j (h1 : j < a.length) (h2 : j < b.length), a[j] = b[j]) : a = b := List.ext_getElem hl h
set_option maxHeartbeats 4000000 in
set_option maxRecDepth 100000 in
theorem rpaths_calls (A : Option Addr) (c : Nat) (a : List ByteArray) (B : Option Addr) (d : Nat) (b : List ByteArray) (w : World) (hr : Kd.C Kd.string w A a.length a) (hc : a.length ≤ c) (hs : Kd.C Kd.string w B b.length b) (hd : b.length ≤ d) (hl : a.length ≤ 8796093022208) :
    Calls Tryd.prog 16 #[.slice A a.length c, .slice B b.length d] w fun e w' => e = .returned (.bool (decide (a = b))) ∧ ∃ n, w' = w.drewN n := by
  have HR := Lib.hid hr
  have HS := Lib.hid hs
  obtain ⟨r, hrr⟩ : ∃ r, decide (a = b) = r := ⟨_, rfl⟩
  rw [hrr]
  have HE := Lib.hid hrr
  clear hr hs hrr
  by_cases hlen : a.length = b.length
  · have hz : ((a.length : Int) != (b.length : Int)) = false := by simp [hlen]
    have HLN := Lib.hid hlen
    clear hlen
    go_enter Tryd.func16, Tryd.ntmps16
    go_wp2_with fail
    go_loopw [13] (fun i wr => ∃ k n : Nat, k ≤ a.length ∧ i = .int .i64 k ∧ wr = w.drewN n ∧ Hid (∀ j (h1 : j < a.length) (h2 : j < b.length), j < k → a[j] = b[j])) (fun i _ => a.length - (RowKit.intOf i).toNat)
    case atStart => exact ⟨0, 0, by omega, rfl, rfl, Lib.hid (fun j _ _ hj => by omega)⟩
    case round =>
      obtain ⟨k, n, hk, rfl, rfl, HA⟩ := hrel
      by_cases q1 : k < a.length
      · have q2 : k < b.length := by have := HLN.out; omega
        obtain ⟨ad, rfl, hx⟩ := Kd.at_string HR.out (k : Int) (by omega) (by omega)
        obtain ⟨bd, rfl, hy⟩ := Kd.at_string HS.out (k : Int) (by omega) (by omega)
        rw [Int.toNat_natCast] at hx hy
        have hxe : rdOf ByteArray.empty a (k : Int) = a[k] := by simp [rdOf, q1]
        have hye : rdOf ByteArray.empty b (k : Int) = b[k] := by simp [rdOf, q2]
        rw [hxe] at hx
        rw [hye] at hy
        have HK : Hid (a[k] = b[k] → ∀ j (h1 : j < a.length) (h2 : j < b.length), j < k + 1 → a[j] = b[j]) := Lib.hid (fun he j h1 h2 h3 => by
          by_cases hj : j < k
          · exact HA.out j h1 h2 hj
          · obtain rfl : j = k := by omega
            exact he)
        have HF : Hid (a[k] ≠ b[k] → a ≠ b) := Lib.hid (fun h e => h (by subst e; rfl))
        clear hxe hye HA
        generalize a[k] = x at *
        generalize b[k] = y at *
        have g1 : (k : Int) < (a.length : Int) := by omega
        have g2 : (k : Int) < (b.length : Int) := by omega
        by_cases q3 : x = y
        · have z3 : (x.toList == y.toList) = true := beq_iff_eq.2 (toList_inj.2 q3)
          have z4 : (x.toList != y.toList) = false := by rw [bne, z3]; rfl
          have H3 := Lib.hid q3
          clear q3
          go_wp2_with fail
          go_quiet (fail)
          go_wp2_with fail
          go_roundw
          case rel => exact ⟨k + 1, _, by omega, by go_num, by first | rfl | (simp only [World.drewN_drewN]; rfl), Lib.hid (HK.out H3.out)⟩
          case measure => simp [RowKit.intOf]; omega
        · have z3 : (x.toList == y.toList) = false := beq_eq_false_iff_ne.2 (fun h => q3 (toList_inj.1 h))
          have z4 : (x.toList != y.toList) = true := by rw [bne, z3]; rfl
          have H3 := Lib.hid (HF.out q3)
          clear q3
          have hr := HE.out
          rw [decide_eq_false H3.out] at hr
          have HR2 := Lib.hid hr
          clear hr
          go_wp2_with fail
          go_quiet (fail)
          go_wp2_with fail
          go_ret
          exact ⟨by rw [← HR2.out]; rfl, _, by first | rfl | (simp only [World.drewN_drewN]; rfl)⟩
      · obtain rfl : k = a.length := by omega
        have hr := HE.out
        rw [decide_eq_true (eq_upto HLN.out fun j h1 h2 => HA.out j h1 h2 h1)] at hr
        have HR2 := Lib.hid hr
        clear hr q1
        go_wp2_with fail
        go_ret
        exact ⟨by rw [← HR2.out]; rfl, n, rfl⟩
  · have hz : ((a.length : Int) != (b.length : Int)) = true := by rw [bne_iff_ne]; omega
    have hr := HE.out
    rw [decide_eq_false (fun e => hlen (congrArg List.length e))] at hr
    have HR2 := Lib.hid hr
    clear hr hlen
    go_enter Tryd.func16, Tryd.ntmps16
    go_wp2_with fail
    go_ret
    exact ⟨by rw [← HR2.out]; rfl, 0, rfl⟩

theorem kept_at {w : World} {A : Option Addr} {l : List (List ByteArray × (Int × Int))} (h : KeptK.C w A l.length l) (k : Nat) (hk : k < l.length) :
    ∃ ad B d, A = some ad ∧ w.cell? (ad.add (k * 3)) = some (.slice B l[k].1.length d) ∧ w.cell? ⟨(ad.add (k * 3)).block, (ad.add (k * 3)).off + 1, none⟩ = some (.int .u8 l[k].2.1) ∧ w.cell? ⟨(ad.add (k * 3)).block, (ad.add (k * 3)).off + 2, none⟩ = some (.int .i64 l[k].2.2) ∧ l[k].1.length ≤ d ∧ Kd.C Kd.string w B l[k].1.length l[k].1 := by
  obtain ⟨ad, c, e, _, hK, hc0⟩ := Kd.C_get h ([], (0, 0)) (k : Int) (by omega) (by omega)
  rw [Int.toNat_natCast] at hc0 hK
  have hg : l.getD k ([], (0, 0)) = l[k] := by simp [List.getD, hk]
  rw [hg] at hK
  obtain ⟨_, _, rfl, ⟨B, d, rfl, hd, hC⟩, ⟨_, _, rfl, rfl, rfl⟩⟩ := hK
  have hc : ∀ j u, [Value.slice B l[k].1.length d, Value.int .u8 l[k].2.1, Value.int .i64 l[k].2.2][j]? = some u → w.cell? (ad.add (k * 3 + j)) = some u := hc0
  exact ⟨ad, B, d, e, hc 0 _ rfl, by rw [← add_field _ _ 1 (by omega)]; exact hc 1 _ rfl, by rw [← add_field _ _ 2 (by omega)]; exact hc 2 _ rfl, hd, hC⟩

-- KEPT BEGINS
/-- Those that have come up, as bits. -/
def bm (n m : Nat) : Array Bool := ((List.range n).map (fun j => m.testBit j)).toArray

set_option maxHeartbeats 8000000 in
set_option maxRecDepth 100000 in
theorem kept_calls (A : Option Addr) (c : Nat) (a : List (List ByteArray × (Int × Int))) (B : Option Addr) (d : Nat) (w : World) (hr : KeptK.C w A a.length a) (hc : a.length ≤ c) (hs : KeptK.C w B a.length a) (hd : a.length ≤ d) (hl : a.length ≤ 8796093022208) (hpl : ∀ x ∈ a, x.1.length ≤ 8796093022208) :
    Calls Tryd.prog 17 #[.slice A a.length c, .slice B a.length d] w fun e w' => e = .returned (.bool true) ∧ Below w.heap.size w w' := by
  have HR := Lib.hid hr
  have HS := Lib.hid hs
  have HPL := Lib.hid hpl
  clear hr hs hpl
  have hz : ((a.length : Int) != (a.length : Int)) = false := by simp
  go_enter Tryd.func17, Tryd.ntmps17
  go_wp2_with fail
  go_loopw [13] (fun i wr => ∃ k : Nat, k ≤ a.length ∧ i = .int .i64 k ∧ Below w.heap.size w wr) (fun i _ => a.length - (RowKit.intOf i).toNat)
  case atStart => exact ⟨0, by omega, rfl, Below.refl _ _⟩
  case round =>
    obtain ⟨k, hk, rfl, hb⟩ := hrel
    by_cases q1 : k < a.length
    · obtain ⟨aad, A', c', rfl, p1, p2, p3, hc', hC'⟩ := kept_at HR.out k q1
      obtain ⟨bad, B', d', rfl, r1, r2, r3, hd', hD'⟩ := kept_at HS.out k q1
      have HPB := Lib.hid (fun W (h : ∃ V : World, Below wr.heap.size wr V ∧ W = V) => (rpaths_calls A' c' a[k].1 B' d' a[k].1 W (Kd.C_below hC' (by obtain ⟨V, hV, rfl⟩ := h; exact bstep hb hb.size hV)) hc' (Kd.C_below hD' (by obtain ⟨V, hV, rfl⟩ := h; exact bstep hb hb.size hV)) hd' (HPL.out _ (List.getElem_mem q1))).mono (R' := fun e w' => e = .returned (.bool true) ∧ ∃ n, w' = W.drewN n) (by rintro e w' ⟨rfl, h⟩; exact ⟨by rw [decide_eq_true rfl], h⟩))
      have hF6 : ∀ W, Below wr.heap.size wr W → W.cell? (aad.add (k * 3)) = some (.slice A' a[k].1.length c') ∧ W.cell? ⟨(aad.add (k * 3)).block, (aad.add (k * 3)).off + 1, none⟩ = some (.int .u8 a[k].2.1) ∧ W.cell? ⟨(aad.add (k * 3)).block, (aad.add (k * 3)).off + 2, none⟩ = some (.int .i64 a[k].2.2) ∧ W.cell? (bad.add (k * 3)) = some (.slice B' a[k].1.length d') ∧ W.cell? ⟨(bad.add (k * 3)).block, (bad.add (k * 3)).off + 1, none⟩ = some (.int .u8 a[k].2.1) ∧ W.cell? ⟨(bad.add (k * 3)).block, (bad.add (k * 3)).off + 2, none⟩ = some (.int .i64 a[k].2.2) := fun W h => by
        have mv : ∀ {p : Addr} {v : Value}, w.cell? p = some v → W.cell? p = some v := fun q => ((bstep hb hb.size h).cell (World.block_lt_of_cell? w _ q)).trans q
        exact ⟨mv p1, mv p2, mv p3, mv r1, mv r2, mv r3⟩
      have HF6 := Lib.hid hF6
      clear hC' hD' hF6 p1 p2 p3 r1 r2 r3
      generalize a[k] = x at *
      have g1 : (k : Int) < (a.length : Int) := by omega
      have z1 : (x.2.1 != x.2.1) = false := by simp
      have z2 : (x.2.2 != x.2.2) = false := by simp
      go_wp2_with fail
      refine start_ (n := 38) (S := fun w' => w'.cell? (aad.add (k * 3)) = some (.slice A' x.1.length c') ∧ w'.cell? ⟨(aad.add (k * 3)).block, (aad.add (k * 3)).off + 1, none⟩ = some (.int .u8 x.2.1) ∧ w'.cell? ⟨(aad.add (k * 3)).block, (aad.add (k * 3)).off + 2, none⟩ = some (.int .i64 x.2.2) ∧ w'.cell? (bad.add (k * 3)) = some (.slice B' x.1.length d') ∧ w'.cell? ⟨(bad.add (k * 3)).block, (bad.add (k * 3)).off + 1, none⟩ = some (.int .u8 x.2.1) ∧ w'.cell? ⟨(bad.add (k * 3)).block, (bad.add (k * 3)).off + 2, none⟩ = some (.int .i64 x.2.2)) (ds := []) (bm 38 0) (by kernel_rfl) rfl rfl (HF6.out _ (bdrew (Below.refl _ _))) (fun hHeld => ?_)
      refine pure_ (i := 0) (N := some 16) (v := ?_) (a' := ?_) (bm 38 1) rfl rfl (by kernel_rfl) (fun _ _ _ h => h) (Or.inl ⟨by rfl, ?_⟩) ?_ ?_
      rotate_left
      · intro w'
        go_simp
        with_reducible rfl
      rotate_left
      · simp only [Act.put, List.setIfInBounds_toArray, List.set_cons_zero, List.set_cons_succ, i64_w, i32_w]
        rfl
      refine pure_ (i := 1) (N := some 17) (v := ?_) (a' := ?_) (bm 38 3) rfl rfl (by kernel_rfl) (fun _ _ _ h => h) (Or.inl ⟨by rfl, ?_⟩) ?_ ?_
      rotate_left
      · intro w'
        go_simp
        with_reducible rfl
      rotate_left
      · simp only [Act.put, List.setIfInBounds_toArray, List.set_cons_zero, List.set_cons_succ, i64_w, i32_w]
        rfl
      refine pure_ (i := 2) (N := some 18) (v := ?_) (a' := ?_) (bm 38 7) rfl rfl (by kernel_rfl) (fun _ _ _ h => h) (Or.inl ⟨by rfl, ?_⟩) ?_ ?_
      rotate_left
      · intro w'
        go_simp
        with_reducible rfl
      rotate_left
      · simp only [Act.put, List.setIfInBounds_toArray, List.set_cons_zero, List.set_cons_succ, i64_w, i32_w]
        rfl
      refine pure_ (i := 3) (N := some 19) (v := ?_) (a' := ?_) (bm 38 15) rfl rfl (by kernel_rfl) (fun _ _ _ h => h) (Or.inl ⟨by rfl, ?_⟩) ?_ ?_
      rotate_left
      · intro w'
        go_simp
        with_reducible rfl
      rotate_left
      · simp only [Act.put, List.setIfInBounds_toArray, List.set_cons_zero, List.set_cons_succ, i64_w, i32_w]
        rfl
      refine pure_ (i := 5) (N := some 21) (v := ?_) (a' := ?_) (bm 38 47) rfl rfl (by kernel_rfl) (fun _ _ _ h => h) (Or.inl ⟨by rfl, ?_⟩) ?_ ?_
      rotate_left
      · intro w'
        go_simp
        with_reducible rfl
      rotate_left
      · simp only [Act.put, List.setIfInBounds_toArray, List.set_cons_zero, List.set_cons_succ, i64_w, i32_w]
        rfl
      refine pure_ (i := 6) (N := some 22) (v := ?_) (a' := ?_) (bm 38 111) rfl rfl (by kernel_rfl) (fun _ _ _ h => h) (Or.inl ⟨by rfl, ?_⟩) ?_ ?_
      rotate_left
      · intro w'
        go_simp
        with_reducible rfl
      rotate_left
      · simp only [Act.put, List.setIfInBounds_toArray, List.set_cons_zero, List.set_cons_succ, i64_w, i32_w]
        rfl
      refine pure_ (i := 7) (N := some 23) (v := ?_) (a' := ?_) (bm 38 239) rfl rfl (by kernel_rfl) (fun _ _ _ h => h) (Or.inl ⟨by rfl, ?_⟩) ?_ ?_
      rotate_left
      · intro w'
        go_simp
        with_reducible rfl
      rotate_left
      · simp only [Act.put, List.setIfInBounds_toArray, List.set_cons_zero, List.set_cons_succ, i64_w, i32_w]
        rfl
      refine pure_ (i := 8) (N := some 24) (v := ?_) (a' := ?_) (bm 38 495) rfl rfl (by kernel_rfl) (fun _ _ _ h => h) (Or.inl ⟨by rfl, ?_⟩) ?_ ?_
      rotate_left
      · intro w'
        go_simp
        with_reducible rfl
      rotate_left
      · simp only [Act.put, List.setIfInBounds_toArray, List.set_cons_zero, List.set_cons_succ, i64_w, i32_w]
        rfl
      refine take_ (i := 4) (N := some 20) (v := ?_) (a' := ?_) (bm 38 511) rfl rfl (by kernel_rfl) (fun _ _ _ h => h) (Or.inl ⟨by rfl, ?_⟩) hHeld ?_ ?_
      rotate_left
      · rintro w' ⟨s0, s1, s2, s3, s4, s5⟩
        go_simp
        with_reducible rfl
      rotate_left
      · simp only [Act.put, List.setIfInBounds_toArray, List.set_cons_zero, List.set_cons_succ, i64_w, i32_w]
        rfl
      refine take_ (i := 9) (N := some 25) (v := ?_) (a' := ?_) (bm 38 1023) rfl rfl (by kernel_rfl) (fun _ _ _ h => h) (Or.inl ⟨by rfl, ?_⟩) hHeld ?_ ?_
      rotate_left
      · rintro w' ⟨s0, s1, s2, s3, s4, s5⟩
        go_simp
        with_reducible rfl
      rotate_left
      · simp only [Act.put, List.setIfInBounds_toArray, List.set_cons_zero, List.set_cons_succ, i64_w, i32_w]
        rfl
      refine one_ (i := 10) (N := some 26) (bm 38 2047) rfl rfl (by kernel_rfl) (by decide) (fun K hK => ?_)
      refine goes_ Tryd.func16 (by kernel_rfl) rfl #[.slice A' x.1.length c', .slice B' x.1.length d'] (by rfl) rfl rfl (by simp only [List.map_toArray, List.map_cons, List.map_nil]; rfl) ?_
      refine (HPB.out _ ⟨_, bdrew (Below.refl _ _), rfl⟩).mono ?_
      rintro e w1 ⟨rfl, m, rfl⟩
      refine ⟨_, rfl, ?_⟩
      refine hK.out _ _ (HF6.out _ (bdrewN (bdrew (Below.refl _ _)) m)) (fun hHeld => ?_)
      refine norm_ (a' := ?_) ?_ ?_
      rotate_left
      · show Act.put _ (some 26) _ = _
        simp only [Act.put, List.setIfInBounds_toArray, List.set_cons_zero, List.set_cons_succ, i64_w, i32_w]
        rfl
      refine pure_ (i := 11) (N := some 27) (v := ?_) (a' := ?_) (bm 38 4095) rfl rfl (by kernel_rfl) (fun _ _ _ h => h) (Or.inl ⟨by rfl, ?_⟩) ?_ ?_
      rotate_left
      · intro w'
        go_simp
        with_reducible rfl
      rotate_left
      · simp only [Act.put, List.setIfInBounds_toArray, List.set_cons_zero, List.set_cons_succ, i64_w, i32_w]
        rfl
      refine pure_ (i := 12) (N := some 28) (v := ?_) (a' := ?_) (bm 38 8191) rfl rfl (by kernel_rfl) (fun _ _ _ h => h) (Or.inl ⟨by rfl, ?_⟩) ?_ ?_
      rotate_left
      · intro w'
        go_simp
        with_reducible rfl
      rotate_left
      · simp only [Act.put, List.setIfInBounds_toArray, List.set_cons_zero, List.set_cons_succ, i64_w, i32_w]
        rfl
      refine pure_ (i := 13) (N := some 29) (v := ?_) (a' := ?_) (bm 38 16383) rfl rfl (by kernel_rfl) (fun _ _ _ h => h) (Or.inl ⟨by rfl, ?_⟩) ?_ ?_
      rotate_left
      · intro w'
        go_simp
        with_reducible rfl
      rotate_left
      · simp only [Act.put, List.setIfInBounds_toArray, List.set_cons_zero, List.set_cons_succ, i64_w, i32_w]
        rfl
      refine pure_ (i := 14) (N := some 30) (v := ?_) (a' := ?_) (bm 38 32767) rfl rfl (by kernel_rfl) (fun _ _ _ h => h) (Or.inl ⟨by rfl, ?_⟩) ?_ ?_
      rotate_left
      · intro w'
        go_simp
        with_reducible rfl
      rotate_left
      · simp only [Act.put, List.setIfInBounds_toArray, List.set_cons_zero, List.set_cons_succ, i64_w, i32_w]
        rfl
      refine pure_ (i := 15) (N := some 31) (v := ?_) (a' := ?_) (bm 38 65535) rfl rfl (by kernel_rfl) (fun _ _ _ h => h) (Or.inl ⟨by rfl, ?_⟩) ?_ ?_
      rotate_left
      · intro w'
        go_simp
        with_reducible rfl
      rotate_left
      · simp only [Act.put, List.setIfInBounds_toArray, List.set_cons_zero, List.set_cons_succ, i64_w, i32_w]
        rfl
      refine pure_ (i := 16) (N := some 32) (v := ?_) (a' := ?_) (bm 38 131071) rfl rfl (by kernel_rfl) (fun _ _ _ h => h) (Or.inl ⟨by rfl, ?_⟩) ?_ ?_
      rotate_left
      · intro w'
        go_simp
        with_reducible rfl
      rotate_left
      · simp only [Act.put, List.setIfInBounds_toArray, List.set_cons_zero, List.set_cons_succ, i64_w, i32_w]
        rfl
      refine pure_ (i := 18) (N := some 34) (v := ?_) (a' := ?_) (bm 38 393215) rfl rfl (by kernel_rfl) (fun _ _ _ h => h) (Or.inl ⟨by rfl, ?_⟩) ?_ ?_
      rotate_left
      · intro w'
        go_simp
        with_reducible rfl
      rotate_left
      · simp only [Act.put, List.setIfInBounds_toArray, List.set_cons_zero, List.set_cons_succ, i64_w, i32_w]
        rfl
      refine pure_ (i := 19) (N := some 35) (v := ?_) (a' := ?_) (bm 38 917503) rfl rfl (by kernel_rfl) (fun _ _ _ h => h) (Or.inl ⟨by rfl, ?_⟩) ?_ ?_
      rotate_left
      · intro w'
        go_simp
        with_reducible rfl
      rotate_left
      · simp only [Act.put, List.setIfInBounds_toArray, List.set_cons_zero, List.set_cons_succ, i64_w, i32_w]
        rfl
      refine pure_ (i := 20) (N := some 36) (v := ?_) (a' := ?_) (bm 38 1966079) rfl rfl (by kernel_rfl) (fun _ _ _ h => h) (Or.inl ⟨by rfl, ?_⟩) ?_ ?_
      rotate_left
      · intro w'
        go_simp
        with_reducible rfl
      rotate_left
      · simp only [Act.put, List.setIfInBounds_toArray, List.set_cons_zero, List.set_cons_succ, i64_w, i32_w]
        rfl
      refine pure_ (i := 21) (N := some 37) (v := ?_) (a' := ?_) (bm 38 4063231) rfl rfl (by kernel_rfl) (fun _ _ _ h => h) (Or.inl ⟨by rfl, ?_⟩) ?_ ?_
      rotate_left
      · intro w'
        go_simp
        with_reducible rfl
      rotate_left
      · simp only [Act.put, List.setIfInBounds_toArray, List.set_cons_zero, List.set_cons_succ, i64_w, i32_w]
        rfl
      refine take_ (i := 17) (N := some 33) (v := ?_) (a' := ?_) (bm 38 4194303) rfl rfl (by kernel_rfl) (fun _ _ _ h => h) (Or.inl ⟨by rfl, ?_⟩) hHeld ?_ ?_
      rotate_left
      · rintro w' ⟨s0, s1, s2, s3, s4, s5⟩
        go_simp
        with_reducible rfl
      rotate_left
      · simp only [Act.put, List.setIfInBounds_toArray, List.set_cons_zero, List.set_cons_succ, i64_w, i32_w]
        rfl
      refine take_ (i := 22) (N := some 38) (v := ?_) (a' := ?_) (bm 38 8388607) rfl rfl (by kernel_rfl) (fun _ _ _ h => h) (Or.inl ⟨by rfl, ?_⟩) hHeld ?_ ?_
      rotate_left
      · rintro w' ⟨s0, s1, s2, s3, s4, s5⟩
        go_simp
        with_reducible rfl
      rotate_left
      · simp only [Act.put, List.setIfInBounds_toArray, List.set_cons_zero, List.set_cons_succ, i64_w, i32_w]
        rfl
      refine pure_ (i := 23) (N := some 39) (v := ?_) (a' := ?_) (bm 38 16777215) rfl rfl (by kernel_rfl) (fun _ _ _ h => h) (Or.inl ⟨by rfl, ?_⟩) ?_ ?_
      rotate_left
      · intro w'
        go_simp
        with_reducible rfl
      rotate_left
      · simp only [Act.put, List.setIfInBounds_toArray, List.set_cons_zero, List.set_cons_succ, i64_w, i32_w]
        rfl
      refine pure_ (i := 24) (N := some 40) (v := ?_) (a' := ?_) (bm 38 33554431) rfl rfl (by kernel_rfl) (fun _ _ _ h => h) (Or.inl ⟨by rfl, ?_⟩) ?_ ?_
      rotate_left
      · intro w'
        go_simp
        with_reducible rfl
      rotate_left
      · simp only [Act.put, List.setIfInBounds_toArray, List.set_cons_zero, List.set_cons_succ, i64_w, i32_w]
        rfl
      refine pure_ (i := 25) (N := some 41) (v := ?_) (a' := ?_) (bm 38 67108863) rfl rfl (by kernel_rfl) (fun _ _ _ h => h) (Or.inl ⟨by rfl, ?_⟩) ?_ ?_
      rotate_left
      · intro w'
        go_simp
        with_reducible rfl
      rotate_left
      · simp only [Act.put, List.setIfInBounds_toArray, List.set_cons_zero, List.set_cons_succ, i64_w, i32_w]
        rfl
      refine pure_ (i := 26) (N := some 42) (v := ?_) (a' := ?_) (bm 38 134217727) rfl rfl (by kernel_rfl) (fun _ _ _ h => h) (Or.inl ⟨by rfl, ?_⟩) ?_ ?_
      rotate_left
      · intro w'
        go_simp
        with_reducible rfl
      rotate_left
      · simp only [Act.put, List.setIfInBounds_toArray, List.set_cons_zero, List.set_cons_succ, i64_w, i32_w]
        rfl
      refine pure_ (i := 27) (N := some 43) (v := ?_) (a' := ?_) (bm 38 268435455) rfl rfl (by kernel_rfl) (fun _ _ _ h => h) (Or.inl ⟨by rfl, ?_⟩) ?_ ?_
      rotate_left
      · intro w'
        go_simp
        with_reducible rfl
      rotate_left
      · simp only [Act.put, List.setIfInBounds_toArray, List.set_cons_zero, List.set_cons_succ, i64_w, i32_w]
        rfl
      refine pure_ (i := 28) (N := some 44) (v := ?_) (a' := ?_) (bm 38 536870911) rfl rfl (by kernel_rfl) (fun _ _ _ h => h) (Or.inl ⟨by rfl, ?_⟩) ?_ ?_
      rotate_left
      · intro w'
        go_simp
        with_reducible rfl
      rotate_left
      · simp only [Act.put, List.setIfInBounds_toArray, List.set_cons_zero, List.set_cons_succ, i64_w, i32_w]
        rfl
      refine pure_ (i := 29) (N := some 45) (v := ?_) (a' := ?_) (bm 38 1073741823) rfl rfl (by kernel_rfl) (fun _ _ _ h => h) (Or.inl ⟨by rfl, ?_⟩) ?_ ?_
      rotate_left
      · intro w'
        go_simp
        with_reducible rfl
      rotate_left
      · simp only [Act.put, List.setIfInBounds_toArray, List.set_cons_zero, List.set_cons_succ, i64_w, i32_w]
        rfl
      refine pure_ (i := 31) (N := some 47) (v := ?_) (a' := ?_) (bm 38 3221225471) rfl rfl (by kernel_rfl) (fun _ _ _ h => h) (Or.inl ⟨by rfl, ?_⟩) ?_ ?_
      rotate_left
      · intro w'
        go_simp
        with_reducible rfl
      rotate_left
      · simp only [Act.put, List.setIfInBounds_toArray, List.set_cons_zero, List.set_cons_succ, i64_w, i32_w]
        rfl
      refine pure_ (i := 32) (N := some 48) (v := ?_) (a' := ?_) (bm 38 7516192767) rfl rfl (by kernel_rfl) (fun _ _ _ h => h) (Or.inl ⟨by rfl, ?_⟩) ?_ ?_
      rotate_left
      · intro w'
        go_simp
        with_reducible rfl
      rotate_left
      · simp only [Act.put, List.setIfInBounds_toArray, List.set_cons_zero, List.set_cons_succ, i64_w, i32_w]
        rfl
      refine pure_ (i := 33) (N := some 49) (v := ?_) (a' := ?_) (bm 38 16106127359) rfl rfl (by kernel_rfl) (fun _ _ _ h => h) (Or.inl ⟨by rfl, ?_⟩) ?_ ?_
      rotate_left
      · intro w'
        go_simp
        with_reducible rfl
      rotate_left
      · simp only [Act.put, List.setIfInBounds_toArray, List.set_cons_zero, List.set_cons_succ, i64_w, i32_w]
        rfl
      refine pure_ (i := 34) (N := some 50) (v := ?_) (a' := ?_) (bm 38 33285996543) rfl rfl (by kernel_rfl) (fun _ _ _ h => h) (Or.inl ⟨by rfl, ?_⟩) ?_ ?_
      rotate_left
      · intro w'
        go_simp
        with_reducible rfl
      rotate_left
      · simp only [Act.put, List.setIfInBounds_toArray, List.set_cons_zero, List.set_cons_succ, i64_w, i32_w]
        rfl
      refine take_ (i := 30) (N := some 46) (v := ?_) (a' := ?_) (bm 38 34359738367) rfl rfl (by kernel_rfl) (fun _ _ _ h => h) (Or.inl ⟨by rfl, ?_⟩) hHeld ?_ ?_
      rotate_left
      · rintro w' ⟨s0, s1, s2, s3, s4, s5⟩
        go_simp
        with_reducible rfl
      rotate_left
      · simp only [Act.put, List.setIfInBounds_toArray, List.set_cons_zero, List.set_cons_succ, i64_w, i32_w]
        rfl
      refine take_ (i := 35) (N := some 51) (v := ?_) (a' := ?_) (bm 38 68719476735) rfl rfl (by kernel_rfl) (fun _ _ _ h => h) (Or.inl ⟨by rfl, ?_⟩) hHeld ?_ ?_
      rotate_left
      · rintro w' ⟨s0, s1, s2, s3, s4, s5⟩
        go_simp
        with_reducible rfl
      rotate_left
      · simp only [Act.put, List.setIfInBounds_toArray, List.set_cons_zero, List.set_cons_succ, i64_w, i32_w]
        rfl
      refine pure_ (i := 36) (N := some 52) (v := ?_) (a' := ?_) (bm 38 137438953471) rfl rfl (by kernel_rfl) (fun _ _ _ h => h) (Or.inl ⟨by rfl, ?_⟩) ?_ ?_
      rotate_left
      · intro w'
        go_simp
        with_reducible rfl
      rotate_left
      · simp only [Act.put, List.setIfInBounds_toArray, List.set_cons_zero, List.set_cons_succ, i64_w, i32_w]
        rfl
      refine pure_ (i := 37) (N := some 53) (v := ?_) (a' := ?_) (bm 38 274877906943) rfl rfl (by kernel_rfl) (fun _ _ _ h => h) (Or.inl ⟨by rfl, ?_⟩) ?_ ?_
      rotate_left
      · intro w'
        go_simp
        with_reducible rfl
      rotate_left
      · simp only [Act.put, List.setIfInBounds_toArray, List.set_cons_zero, List.set_cons_succ, i64_w, i32_w]
        rfl
      refine done_ (by kernel_rfl) ?_
      go_wp2_with fail
      go_roundw
      case rel => exact ⟨k + 1, by omega, by go_num, bstep hb hb.size (bdrewN (Below.refl _ _) _)⟩
      case measure => simp [RowKit.intOf]; omega
    · obtain rfl : k = a.length := by omega
      go_wp2_with fail
      go_ret
      exact ⟨rfl, hb⟩
end Go.Proofs.YtdnhjnlhmfajnaaDoor.G
