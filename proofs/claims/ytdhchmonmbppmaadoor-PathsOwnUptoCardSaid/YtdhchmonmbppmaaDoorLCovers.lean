/- The law PathsCovers: it returns true. -/
import Derived.Test.YtdhchmonmbppmaaDoorInside
import Derived.Test.YtdhchmonmbppmaaDoorCover3
import Derived.Test.YtdhchmonmbppmaaDoorLOnce
namespace Go.Proofs.YtdhchmonmbppmaaDoor.G
open Go.RowKit Go.Lib Go.Proofs.YtdhchmonmbppmaaDoorW.PrintWords Go.Proofs.YtdhchmonmbppmaaDoorW.PrintLast
set_option linter.unusedVariables false

theorem sumLL_perm {a b : List (List ByteArray)} (h : a.Perm b) : sumLL a = sumLL b := (h.map _).sum_nat
theorem sumLL_sub : ∀ {out ll : List (List ByteArray)}, out.Nodup → (∀ x ∈ out, x ∈ ll) → sumLL out ≤ sumLL ll
  | [], ll, _, _ => Nat.zero_le _
  | x :: r, ll, hn, hs => by
    obtain ⟨a, b, rfl⟩ := List.append_of_mem (hs x (List.mem_cons_self ..))
    have hn' := List.nodup_cons.1 hn
    have := sumLL_sub (out := r) (ll := a ++ b) hn'.2 fun y hy => by
      have h1 := hs y (List.mem_cons_of_mem _ hy)
      have h2 : y ≠ x := fun e => hn'.1 (e ▸ hy)
      simp only [List.mem_append, List.mem_cons] at h1 ⊢
      rcases h1 with h1 | h1 | h1
      · exact .inl h1
      · exact absurd h1 h2
      · exact .inr h1
    simp only [sumLL, List.map_cons, List.sum_cons, List.map_append, List.sum_append] at this ⊢
    omega
theorem strict_nodup {out : List (List ByteArray)} (h : strictP out) : out.Nodup := by
  refine List.Pairwise.imp (fun {a b} h e => ?_) h
  subst e
  have := (cmp_zero (a := a) (b := a)).2 rfl
  omega
theorem strict_sum {out ll : List (List ByteArray)} (h : strictP out) (hm : ∀ x, x ∈ out ↔ leastP ll x) : sumLL out ≤ sumLL ll :=
  sumLL_sub (strict_nodup h) fun x hx => ((hm x).1 hx).1

set_option maxHeartbeats 16000000 in
set_option maxRecDepth 100000 in
theorem lcovers_calls (A : Option Addr) (c : Nat) (ll : List (List ByteArray)) (B : Option Addr) (d : Nat) (p : List ByteArray) (C : Option Addr) (f : Nat) (q : List ByteArray) (w : World) (hr : Kd.C PathK w A ll.length ll) (hc : ll.length ≤ c) (hl : sumLL ll ≤ 2097152)
    (hr2 : Kd.C Kd.string w B p.length p) (hd : p.length ≤ d) (hl2 : p.length ≤ 1048576) (hs2 : sumP p ≤ 2097152) (hr3 : Kd.C Kd.string w C q.length q) (hf : q.length ≤ f) (hl3 : q.length ≤ 1048576) (hs3 : sumP q ≤ 2097152) :
    Calls Tryd.prog 8 #[.slice A ll.length c, .slice B p.length d, .slice C q.length f] w fun e w' => e = .returned (.bool true) ∧ Below w.heap.size w w' := by
  have hll := sumLL_len ll
  have T : ∀ {F : FuncId} {args : Array Value} {W : World} {v : Value}, Below w.heap.size w W → Calls Tryd.prog F args W (fun e w' => e = .returned v ∧ ∃ n, w' = W.drewN n) → Calls Tryd.prog F args W (fun e w' => e = .returned v ∧ Below w.heap.size w w') :=
    fun hb h => h.mono fun e w' ⟨he, n, hw⟩ => ⟨he, hw ▸ bdrewN hb n⟩
  have HCp := Lib.hid (rcopies_calls A c ll w hr hc (by omega))
  go_enter Tryd.func8, Tryd.ntmps8
  go_wp2_with fail
  refine HCp.out.mono ?_
  rintro e w1 ⟨v1, rfl, ho, hb⟩
  obtain ⟨A1, c1, rfl, hc1, hC1⟩ := Kd.R_reads ho
  clear ho
  have hw1 := hb.size
  have T1 : ∀ {F : FuncId} {args : Array Value} {W : World} {v : Value}, Below w1.heap.size w1 W → Calls Tryd.prog F args W (fun e w' => e = .returned v ∧ ∃ n, w' = W.drewN n) → Calls Tryd.prog F args W (fun e w' => e = .returned v ∧ Below w1.heap.size w1 w') :=
    fun hb h => h.mono fun e w' ⟨he, n, hw⟩ => ⟨he, hw ▸ bdrewN hb n⟩
  have D : ∀ {W : World}, Below w1.heap.size w1 W → Below w.heap.size w W := fun h => hb.trans (h.mono hw1)
  have H1 := Lib.hid (fun W (h : Below w1.heap.size w1 W) => T1 h (within_calls B d p C f q W (Kd.C_below hr2 (D h)) hd (Kd.C_below hr3 (D h)) hf (by omega)))
  have H2 := Lib.hid (fun W (h : Below w1.heap.size w1 W) => T1 h (rwithin_calls B d p C f q W (Kd.C_below hr2 (D h)) hd (Kd.C_below hr3 (D h)) hf (by omega)))
  have H3 := Lib.hid (fun W (h : Below w1.heap.size w1 W) => T1 h (compare_calls B d p C f q W (Kd.C_below hr2 (D h)) hd (Kd.C_below hr3 (D h)) hf (by omega)))
  have H4 := Lib.hid (fun W (h : Below w1.heap.size w1 W) => T1 h (rcompare_calls B d p C f q W (Kd.C_below hr2 (D h)) hd (Kd.C_below hr3 (D h)) hf (by omega)))
  have H5 := Lib.hid (fun W (h : Below w1.heap.size w1 W) => cover_calls A1 c1 ll W (Kd.C_below hC1 h) hc1 (by omega))
  have H6 := Lib.hid (fun W (h : Below w1.heap.size w1 W) => rcover_calls A c ll W (Kd.C_below hr (D h)) hc (by omega))
  have H7 := Lib.hid (fun W (h : Below w1.heap.size w1 W) => inside_calls A1 c1 ll B d p W (Kd.C_below hC1 h) hc1 (by omega) (Kd.C_below hr2 (D h)) hd (by omega))
  have H8 := Lib.hid (fun W (h : Below w1.heap.size w1 W) => T1 h (rinside_calls A c ll B d p W (Kd.C_below hr (D h)) hc (by omega) (Kd.C_below hr2 (D h)) hd (by omega)))
  have H9 := Lib.hid (fun W (h : Below w1.heap.size w1 W) => T1 h (ralike_calls A1 c1 ll A c ll W (Kd.C_below hC1 h) hc1 (by omega) (Kd.C_below hr (D h)) hc (by omega)))
  have hD := Lib.hid (fun W (h : Below w1.heap.size w1 W) => D h)
  have h0 : Below w1.heap.size w1 w1 := Below.refl _ _
  clear T T1 D hr hr2 hr3 hC1 HCp hb hw1
  generalize withinB p q = wpq at *
  generalize cmpP p q = cpq at *
  generalize insideB ll p = ins at *
  go_wp2_with fail
  refine (H1.out _ h0).mono ?_
  rintro e w2 ⟨rfl, hb2⟩
  go_wp2_with fail
  refine (H2.out _ hb2).mono ?_
  rintro e w3 ⟨rfl, hb3⟩
  go_wp2_with fail
  refine (H3.out _ hb3).mono ?_
  rintro e w4 ⟨rfl, hb4⟩
  go_wp2_with fail
  refine (H4.out _ hb4).mono ?_
  rintro e w5 ⟨rfl, hb5⟩
  go_wp2_with fail
  refine (H5.out _ hb5).mono ?_
  rintro e w6 ⟨v6, out6, rfl, ho6, hs6, hm6, hc6, hb6⟩
  obtain ⟨A6, c6, rfl, hcc6, hC6⟩ := Kd.R_reads ho6
  have hb6' := hb5.trans (hb6.mono hb5.size)
  have HO := Lib.hid (And.intro hC6 hb6)
  clear ho6 hC6 hb6 hc6
  go_wp2_with fail
  refine (H6.out _ hb6').mono ?_
  rintro e w7 ⟨v7, out7, rfl, ho7, hs7, hm7, hb7⟩
  obtain ⟨A7, c7, rfl, hcc7, hC7⟩ := Kd.R_reads ho7
  obtain rfl : out6 = out7 := strict_unique hs6 hs7 fun x => (hm6 x).trans (hm7 x).symm
  have hb7' := hb6'.trans (hb7.mono hb6'.size)
  have hsum := strict_sum hs6 hm6
  have hlen := sumLL_len out6
  have HA := Lib.hid (ralike_calls A6 c6 out6 A7 c7 out6 w7 (Kd.C_below HO.out.1 hb7) hcc6 (by omega) hC7 hcc7 (by omega))
  clear ho7 hC7 hb7 HO hm6 hm7 hs6 hs7
  go_wp2_with fail
  refine HA.out.mono ?_
  rintro e w8 ⟨rfl, n8, rfl⟩
  clear HA
  have hb8 := bdrewN hb7' n8
  generalize w7.drewN n8 = w8 at *
  go_wp2_with fail
  refine (H7.out _ hb8).mono ?_
  rintro e w9 ⟨rfl, hb9⟩
  have hb9' := hb8.trans (hb9.mono hb8.size)
  go_wp2_with fail
  refine (H8.out _ hb9').mono ?_
  rintro e w10 ⟨rfl, hb10⟩
  go_wp2_with fail
  refine (H9.out _ hb10).mono ?_
  rintro e w11 ⟨rfl, hb11⟩
  go_wp2_with fail
  refine (begins_calls _).mono ?_
  rintro e w12 ⟨rfl, hb12⟩
  have hb13 := hD.out _ (hb11.trans (hb12.mono hb11.size))
  go_wp2_with fail
  go_ret
  exact ⟨rfl, hb13⟩
end Go.Proofs.YtdhchmonmbppmaaDoor.G
