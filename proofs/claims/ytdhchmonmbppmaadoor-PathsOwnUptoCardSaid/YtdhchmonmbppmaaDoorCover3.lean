/- paths.Cover at every list. -/
import Derived.Test.YtdhchmonmbppmaaDoorCover2
import Derived.Test.YtdhchmonmbppmaaDoorRCover
import Derived.Shelf.SlSortCmp.NoneTotal
namespace Go.Proofs.YtdhchmonmbppmaaDoor.G
open Go.RowKit Go.Lib Go.Shelf Go.Proofs.YtdhchmonmbppmaaDoorW.PrintWords Go.Proofs.YtdhchmonmbppmaaDoorW.PrintLast
set_option linter.unusedVariables false

set_option maxHeartbeats 4000000 in
set_option maxRecDepth 100000 in
theorem cover_no (w : World) (A : Option Addr) (c : Nat) (d : List (VPE w)) (hr : Kd.C (VK w) w A d.length d) (hc : d.length ≤ c) (h0 : d = []) :
    Calls Tryd.prog 27 #[.slice A d.length c] w fun e w' => ∃ v s, e = .returned v ∧ s.Perm (pathsOf d) ∧ sortedP s ∧ Kd.S PathK 23 w' w.heap.size (fun _ => True) v (coverF s) ∧ Below w.heap.size w w' := by
  have HR := Lib.hid hr
  clear hr
  subst h0
  have H2 := Lib.hid (fun p cap fv W => AnyF.slices_SortFunc_none (P := Tryd.prog) (ρ := Tryd.sortPaths_ren) { Tryd.sortPaths with } p cap fv W)
  go_enter Tryd.func27, Tryd.ntmps27
  go_wp2_with fail
  refine (clones_calls w A c [] HR.out hc (by simp)).mono ?_
  rintro e w1 ⟨v1, rfl, ho, hb⟩
  obtain ⟨A1, c1, rfl, hc1, hC1⟩ := Kd.R_reads ho
  clear ho hC1
  go_wp2_with fail
  refine (H2.out A1 c1 _ _).mono ?_
  rintro e w2 ⟨rfl, hw2⟩
  rw [hw2]
  go_wp2_with fail
  go_loopw [4, 13] (fun v i wr => v = .slice none 0 0 ∧ i = .int .i64 0 ∧ wr = w1) (fun _ i _ => 0)
  case atStart => exact ⟨rfl, rfl, rfl⟩
  case round =>
    obtain ⟨rfl, rfl, rfl⟩ := hrel
    go_wp2_with fail
    go_ret
    exact ⟨_, [], rfl, List.Perm.refl _, List.Pairwise.nil, Kd.S_nil _ _ _ _ _, hb⟩

theorem cover_callsS (A : Option Addr) (c : Nat) (ll : List (List ByteArray)) (w : World) (hr : Kd.C PathK w A ll.length ll) (hc : ll.length ≤ c) (hl : sumLL ll ≤ 1099511627776) :
    Calls Tryd.prog 27 #[.slice A ll.length c] w fun e w' => ∃ v out, e = .returned v ∧ Kd.S PathK 23 w' w.heap.size (fun _ => True) v out ∧ strictP out ∧ (∀ x, x ∈ out ↔ leastP ll x) ∧ (∀ x ∈ ll, ∃ o ∈ out, o <+: x) ∧ Below w.heap.size w w' := by
  obtain ⟨d, hd, hC⟩ := to_rows hr hl
  have hdl : d.length = ll.length := by rw [← hd, pathsOf_length]
  have hll := sumLL_len ll
  rw [← hdl]
  have H : Calls Tryd.prog 27 #[.slice A d.length c] w fun e w' => ∃ v s, e = .returned v ∧ s.Perm (pathsOf d) ∧ sortedP s ∧ Kd.S PathK 23 w' w.heap.size (fun _ => True) v (coverF s) ∧ Below w.heap.size w w' := by
    rcases Nat.eq_zero_or_pos d.length with h0 | h0
    · exact cover_no w A c d hC (by omega) (List.length_eq_zero_iff.1 h0)
    · exact cover_yes w A c d hC (by omega) (by omega) h0
  refine H.mono ?_
  rintro e w' ⟨v, s, rfl, hp, hs, hR, hb⟩
  rw [hd] at hp
  have hI := cov_all hs
  refine ⟨v, coverF s, rfl, hR, hI.strict, fun x => (cov_mem hI x).trans (least_perm hp x), fun x hx => hI.all x (hp.mem_iff.2 hx), hb⟩
theorem cover_calls (A : Option Addr) (c : Nat) (ll : List (List ByteArray)) (w : World) (hr : Kd.C PathK w A ll.length ll) (hc : ll.length ≤ c) (hl : sumLL ll ≤ 1099511627776) :
    Calls Tryd.prog 27 #[.slice A ll.length c] w fun e w' => ∃ v out, e = .returned v ∧ Kd.R PathK 23 w' w.heap.size (fun _ => True) v out ∧ strictP out ∧ (∀ x, x ∈ out ↔ leastP ll x) ∧ (∀ x ∈ ll, ∃ o ∈ out, o <+: x) ∧ Below w.heap.size w w' :=
  (cover_callsS A c ll w hr hc hl).mono fun e w' ⟨v, out, he, hS, h⟩ => ⟨v, out, he, Kd.S_R hS, h⟩
end Go.Proofs.YtdhchmonmbppmaaDoor.G
