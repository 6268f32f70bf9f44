/- The calls that fail: a map from their numbers. -/
import Derived.Test.YthlcjjhfkldmhaaDoorTHd
import Derived.WideMake
import Derived.Carry
import Derived.MapKept
set_option linter.unusedVariables false
set_option linter.unusedSimpArgs false
namespace Go.Proofs.YthlcjjhfkldmhaaDoor.G
open Go.RowKit Go.Shelf Go.Lib Go.Proofs.YthlcjjhfkldmhaaDoorW.PrintWords
set_option linter.unusedVariables false

/-- A map whose keys are just the numbers of a list; each says true. -/
def Faulted (W : World) (m : Nat) (l : List Int) : Prop := ∃ es clock, W.heap[m]? = some (.map es clock) ∧ (∀ x ∈ es.toList, ∃ k, x.key = .int .i64 k ∧ x.val = .bool true) ∧ ∀ n : Int, (∃ x ∈ es.toList, x.key = .int .i64 n) ↔ n ∈ l
theorem Faulted.mv {W W' : World} {m : Nat} {l : List Int} (h : Faulted W m l) (hm : W'.heap[m]? = W.heap[m]?) : Faulted W' m l := by
  obtain ⟨es, clock, h1, h2⟩ := h
  exact ⟨es, clock, hm.trans h1, h2⟩
theorem Faulted.lt {W : World} {m : Nat} {l : List Int} (h : Faulted W m l) : m < W.heap.size := by
  obtain ⟨es, clock, h1, h2⟩ := h
  rcases Nat.lt_or_ge m W.heap.size with hg | hg
  · exact hg
  · rw [Array.getElem?_eq_none hg] at h1; cases h1
theorem fault_find (n : Int) : ∀ (es : List MapEntry) (i : Nat), (∀ x ∈ es, ∃ k, x.key = .int .i64 k ∧ x.val = .bool true) →
    (∃ j, Instr.findNow (.int .i64) (.int .i64 n) es i = some (some (i + j, .bool true)) ∧ ∃ x, es[j]? = some x ∧ x.key = .int .i64 n) ∨ (Instr.findNow (.int .i64) (.int .i64 n) es i = some none ∧ ∀ x ∈ es, x.key ≠ .int .i64 n)
  | [], i, _ => .inr ⟨rfl, fun x hx => by cases hx⟩
  | x :: es, i, h => by
    obtain ⟨k, hk, hv⟩ := h x List.mem_cons_self
    by_cases he : n = k
    · subst he
      have hs : Instr.sameNow (.int .i64) (.int .i64 n) x.key = some true := by rw [hk]; simp [Instr.sameNow]
      exact .inl ⟨0, by simp only [Instr.findNow, hs, hv]; rfl, x, rfl, hk⟩
    · have hs : Instr.sameNow (.int .i64) (.int .i64 n) x.key = some false := by rw [hk]; simp [Instr.sameNow, he]
      rcases fault_find n es (i + 1) (fun y hy => h y (List.mem_cons_of_mem _ hy)) with ⟨j, h1, y, h2, h3⟩ | ⟨h1, h2⟩
      · exact .inl ⟨j + 1, by simp only [Instr.findNow, hs]; rw [h1, show i + 1 + j = i + (j + 1) by omega], y, h2, h3⟩
      · refine .inr ⟨by simp only [Instr.findNow, hs]; exact h1, fun y hy => ?_⟩
        rcases List.mem_cons.1 hy with rfl | hy
        · rw [hk]
          intro e
          injection e with _ e
          exact he e.symm
        · exact h2 y hy
theorem fault_lookup {W : World} {m : Nat} {l : List Int} (h : Faulted W m l) (n : Int) :
    (Instr.lookup 84 (.map (some m)) (.int .i64 n) false).run Tryd.prog W = .ok (.bool (decide (n ∈ l))) W := by
  obtain ⟨es, clock, hb, hs, hl⟩ := h
  have hc : ∀ b, (Instr.checkKey b 10000 3 (.int .i64 n)).run Tryd.prog W = .ok () W := fun b => MapKept.run_checkKey Tryd.underlying3 (by simp [MapKept.IsKey]) b 9999
  have hz : (zeroValue 4).run Tryd.prog W = .ok (.bool false) W := by kernel_rfl
  rcases fault_find n es.toList 0 hs with ⟨j, hf, x, hx, hk⟩ | ⟨hf, hn⟩
  · have hm : n ∈ l := (hl n).1 ⟨x, List.mem_of_getElem? hx, hk⟩
    simp [Instr.lookup, run_underlying Tryd.underlying84, MapKept.run_getObj_map hb, hc, MapKept.run_findKey Tryd.underlying3 hf, Result.andThen, hm]
  · have hm : n ∉ l := fun h => by
      obtain ⟨x, hx, hk⟩ := (hl n).2 h
      exact hn x hx hk
    simp [Instr.lookup, run_underlying Tryd.underlying84, MapKept.run_getObj_map hb, hc, MapKept.run_findKey Tryd.underlying3 hf, Result.andThen, hm, hz]
theorem mem_modify {es : Array MapEntry} {j : Nat} {f : MapEntry → MapEntry} {y : MapEntry} (h : y ∈ (es.modify j f).toList) : y ∈ es.toList ∨ ∃ z ∈ es.toList, y = f z := by
  obtain ⟨i, hi⟩ := List.getElem?_of_mem h
  rw [Array.getElem?_toList, Array.getElem?_modify] at hi
  by_cases hij : j = i
  · rw [if_pos hij] at hi
    cases hz : es[i]? with
    | none => rw [hz] at hi; cases hi
    | some z =>
      rw [hz] at hi
      injection hi with hi
      rw [← Array.getElem?_toList] at hz
      exact .inr ⟨z, List.mem_of_getElem? hz, hi.symm⟩
  · rw [if_neg hij, ← Array.getElem?_toList] at hi
    exact .inl (List.mem_of_getElem? hi)
theorem fault_update {W : World} {m : Nat} {l : List Int} (h : Faulted W m l) (n : Int) :
    ∃ o, (Instr.mapUpdate 84 (.map (some m)) (.int .i64 n) (.bool true)).run Tryd.prog W = .ok () (W.putObj m o) ∧ Faulted (W.putObj m o) m (n :: l) := by
  have hlt := h.lt
  obtain ⟨es, clock, hb, hs, hl⟩ := h
  have hc : ∀ b, (Instr.checkKey b 10000 3 (.int .i64 n)).run Tryd.prog W = .ok () W := fun b => MapKept.run_checkKey Tryd.underlying3 (by simp [MapKept.IsKey]) b 9999
  rcases fault_find n es.toList 0 hs with ⟨j, hf, x, hx, hk⟩ | ⟨hf, hn⟩
  · rw [Nat.zero_add] at hf
    have hks := MapKept.run_keyThatStays (P := Tryd.prog) (w := W) (d := .int .i64) (k := .int .i64 n) (by simp [MapKept.IsKey])
    have hxa : es[j]? = some x := by rw [← Array.getElem?_toList]; exact hx
    have hj : j < es.size := (Array.getElem?_eq_some_iff.1 hxa).1
    refine ⟨.map (es.modify j fun e => { e with key := .int .i64 n, val := .bool true }) clock, ?_, ?_⟩
    · simp [Instr.mapUpdate, run_underlying Tryd.underlying84, MapKept.run_getObj_map hb, hc, MapKept.run_findKey Tryd.underlying3 hf, hxa, hk, hks, MapKept.run_setObj_map _ hb, Result.andThen, World.putObj]
    · refine ⟨_, clock, World.putObj_heap_same hlt, ?_, ?_⟩
      · intro y hy
        rcases mem_modify hy with hy | ⟨z, hz, rfl⟩
        · exact hs y hy
        · exact ⟨n, rfl, rfl⟩
      · intro k
        rw [List.mem_cons, ← hl k]
        constructor
        · rintro ⟨y, hy, hk2⟩
          rcases mem_modify hy with hy | ⟨z, hz, rfl⟩
          · exact .inr ⟨y, hy, hk2⟩
          · injection hk2 with _ hk2
            exact .inl hk2.symm
        · have hme : ({ x with key := .int .i64 n, val := .bool true } : MapEntry) ∈ (es.modify j fun e => { e with key := .int .i64 n, val := .bool true }).toList := by
            have h1 : (es.modify j fun e => { e with key := .int .i64 n, val := .bool true })[j]? = some { x with key := .int .i64 n, val := .bool true } := by
              rw [Array.getElem?_modify, if_pos rfl, hxa]; rfl
            rw [← Array.getElem?_toList] at h1
            exact List.mem_of_getElem? h1
          rintro (rfl | ⟨y, hy, hk2⟩)
          · exact ⟨_, hme, rfl⟩
          · obtain ⟨i, hi⟩ := List.getElem?_of_mem hy
            by_cases hij : j = i
            · subst hij
              have e : y = x := by
                rw [Array.getElem?_toList, hxa] at hi
                injection hi with hi
                exact hi.symm
              subst e
              rw [hk] at hk2
              injection hk2 with _ hk2
              subst hk2
              exact ⟨_, hme, rfl⟩
            · refine ⟨y, ?_, hk2⟩
              have h1 : (es.modify j fun e => { e with key := .int .i64 n, val := .bool true })[i]? = some y := by
                rw [Array.getElem?_modify, if_neg hij, ← Array.getElem?_toList]
                exact hi
              rw [← Array.getElem?_toList] at h1
              exact List.mem_of_getElem? h1
  · refine ⟨.map (es.push { key := .int .i64 n, val := .bool true, born := clock }) (clock + 1), ?_, ?_⟩
    · simp [Instr.mapUpdate, run_underlying Tryd.underlying84, MapKept.run_getObj_map hb, hc, MapKept.run_findKey Tryd.underlying3 hf, MapKept.run_setObj_map _ hb, Result.andThen, World.putObj]
    · refine ⟨_, clock + 1, World.putObj_heap_same hlt, ?_, ?_⟩
      · intro y hy
        rw [Array.toList_push, List.mem_append, List.mem_singleton] at hy
        rcases hy with hy | rfl
        · exact hs y hy
        · exact ⟨n, rfl, rfl⟩
      · intro k
        rw [Array.toList_push, List.mem_cons, ← hl k]
        constructor
        · rintro ⟨y, hy, hk⟩
          rw [List.mem_append, List.mem_singleton] at hy
          rcases hy with hy | rfl
          · exact .inr ⟨y, hy, hk⟩
          · injection hk with _ hk
            exact .inl hk.symm
        · rintro (rfl | ⟨y, hy, hk⟩)
          · exact ⟨_, List.mem_append.2 (.inr (List.mem_singleton.2 rfl)), rfl⟩
          · exact ⟨y, List.mem_append.2 (.inl hy), hk⟩
end Go.Proofs.YthlcjjhfkldmhaaDoor.G
