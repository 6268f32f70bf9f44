/- A path of an owned list of paths written over by another one. -/
import Derived.Test.YtdhchmonmbppmaaDoorLists
namespace Go.Proofs.YtdhchmonmbppmaaDoor.G
open Go.RowKit Go.Lib Go.Proofs.YtdhchmonmbppmaaDoorW.PrintWords Go.Proofs.YtdhchmonmbppmaaDoorW.PrintLast
set_option linter.unusedVariables false

theorem path_elem {e base g n cap : Nat} {W : World} {ok : Nat → Prop} {xs : List (List ByteArray)} (h : Kd.R PathK e W base ok (.slice (some ⟨g, 0, none⟩) n cap) xs) (j : Nat) (hj : j < xs.length) :
    ∃ u, W.cell? ⟨g, j, none⟩ = some u ∧ W.frozen? ⟨g, j, none⟩ = false ∧ Kd.R Kd.string 9 W base (fun k => ok k ∧ some k ≠ some g) u xs[j] := by
  obtain ⟨hok, inner, ⟨h1, h2⟩, hr⟩ := h
  rcases h2 with ⟨hz, _⟩ | ⟨g', cap', cur, hv, hb, hh, hnc, hcm, hcs, ht⟩
  · cases hz
  · injection hv with ha _ hc
    injection ha with ha
    injection ha with hg
    subst hg
    have hM := hr.2 j _ (List.getElem?_eq_getElem hj)
    obtain ⟨u, hu, hRu⟩ := hM
    have hinner : inner[j]? = some u := by
      have := congrArg (fun l => l[0]?) hu
      rw [List.getElem?_take, if_pos (by show 0 < 1; omega), List.getElem?_drop] at this
      rw [show j * PathK.sz + 0 = j by show j * 1 + 0 = j; omega] at this
      exact this
    refine ⟨u, ?_, ?_, hRu⟩
    · have hjn : j < xs.length * 1 := by omega
      have h3 : cur.toList[j]? = some u := by
        rw [← ht, List.getElem?_take] at hinner
        split at hinner
        · exact hinner
        · cases hinner
      simp only [World.cell?, hh]
      simpa using h3
    · simp [World.frozen?, hh]
theorem path_put {e base g n cap : Nat} {W : World} {ok : Nat → Prop} {xs : List (List ByteArray)} (h : Kd.R PathK e W base ok (.slice (some ⟨g, 0, none⟩) n cap) xs) (j : Nat) (hj : j < xs.length) (u : Value) (x : List ByteArray)
    (hu : Kd.R Kd.string 9 W base (fun k => ok k ∧ some k ≠ some g) u x) :
    Kd.R PathK e (W.setCell ⟨g, j, none⟩ u) base ok (.slice (some ⟨g, 0, none⟩) n cap) (xs.set j x) := by
  obtain ⟨hok, inner, ⟨h1, h2⟩, hr⟩ := h
  have hfar : ∀ k, (ok k ∧ some k ≠ (Value.slice (some ⟨g, 0, none⟩) n cap).ownBlock) → (W.setCell ⟨g, j, none⟩ u).heap[k]? = W.heap[k]? := fun k hk =>
    Below.heap_setCell _ _ _ _ (fun e => hk.2 (by rw [e]; rfl))
  rcases h2 with ⟨hz, _⟩ | ⟨g', cap', cur, hv, hb, hh, hnc, hcm, hcs, ht⟩
  · cases hz
  · injection hv with ha hn hc
    injection ha with ha
    injection ha with hg
    subst hg hc
    have hsz : PathK.sz = 1 := rfl
    have hil : inner.length = xs.length := by rw [hr.1, hsz]; omega
    refine ⟨hok, inner.set j u, ⟨by rw [List.length_set, List.length_set, h1], .inr ⟨g, cap, cur.setIfInBounds j u, ?_, hb, blk_set hh j u, by rw [List.length_set]; exact hnc, hcm, by simpa using hcs, ?_⟩⟩, by rw [List.length_set, List.length_set]; exact hr.1, fun i p hp => ?_⟩
    · rw [List.length_set, hn]
    · rw [List.length_set, Array.toList_setIfInBounds, List.take_set, ht]
    · by_cases hij : i = j
      · subst hij
        rw [List.getElem?_set_self (by omega)] at hp
        injection hp with hp
        subst hp
        refine ⟨u, ?_, Kd.R_move hu (fun k hk => hfar k ⟨hk.1, hk.2⟩)⟩
        have hl : i < (inner.set i u).length := by rw [List.length_set]; omega
        rw [hsz, Nat.mul_one, List.drop_eq_getElem_cons hl, List.take_succ_cons, List.take_zero, List.getElem_set_self]
      · rw [List.getElem?_set_ne (by omega)] at hp
        have hM := PathK.M_move hfar (hr.2 i p hp)
        rw [hsz, Nat.mul_one] at hM ⊢
        have hd : ((inner.set j u).drop i).take 1 = (inner.drop i).take 1 := by
          apply List.ext_getElem?
          intro m
          rw [List.getElem?_take, List.getElem?_take, List.getElem?_drop, List.getElem?_drop]
          split
          · rw [List.getElem?_set_ne (by omega)]
          · rfl
        rw [hd]
        exact hM
end Go.Proofs.YtdhchmonmbppmaaDoor.G
