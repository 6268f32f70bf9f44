/- paths.Cover. -/
import Derived.Test.YtdhchmonmbppmaaDoorInside
import Derived.Test.YtdhchmonmbppmaaDoorLaw3
import Derived.Shelf.SlSortCmp.Whole1
namespace Go.Proofs.YtdhchmonmbppmaaDoor.G
open Go.RowKit Go.Lib Go.Shelf Go.Sort Go.Proofs.YtdhchmonmbppmaaDoorW.PrintWords Go.Proofs.YtdhchmonmbppmaaDoorW.PrintLast
set_option linter.unusedVariables false

/-! ### A list of paths as a row of slices -/
structure PE where
  A : Option Addr
  c : Nat
  l : List ByteArray
def ValidPE (w : World) (x : PE) : Prop := Kd.C Kd.string w x.A x.l.length x.l ∧ x.l.length ≤ x.c ∧ x.l.length ≤ 1099511627776
abbrev VPE (w : World) := { x : PE // ValidPE w x }
theorem nil_C' (W : World) : Kd.C Kd.string W none ([] : List ByteArray).length [] := Kd.C_of_reads (d := ByteArray.empty) (h1 := fun _ => rfl) ⟨rfl, by simp, fun h => absurd h (by simp)⟩
instance (w : World) : Inhabited (VPE w) := ⟨⟨⟨none, 0, []⟩, nil_C' w, by simp, by simp⟩⟩
def encV (w : World) (x : VPE w) : Value := .slice x.1.A x.1.l.length x.1.c
abbrev VK (w : World) : Kd (VPE w) := Kd.scalar (encV w) (fun _ => rfl)
def pathsOf {w : World} (d : List (VPE w)) : List (List ByteArray) := d.map (·.1.l)

theorem to_rows {w : World} {A : Option Addr} {ll : List (List ByteArray)} (h : Kd.C PathK w A ll.length ll) (hl : sumLL ll ≤ 1099511627776) : ∃ d : List (VPE w), pathsOf d = ll ∧ Kd.C (VK w) w A d.length d := by
  classical
  have each : ∀ j : Fin ll.length, ∃ x : VPE w, x.1.l = ll[j] ∧ ∃ ad, A = some ad ∧ w.cell? (ad.add j) = some (encV w x) := by
    intro j
    obtain ⟨ad, A', c', rfl, hx, hc', hC'⟩ := path_at h j.1 j.2
    have hm := sumLL_mem (List.getElem_mem j.2)
    exact ⟨⟨⟨A', c', ll[j.1]⟩, hC', hc', by show ll[j.1].length ≤ _; omega⟩, rfl, ad, rfl, hx⟩
  refine ⟨List.ofFn fun j => Classical.choose (each j), ?_, ?_⟩
  · apply List.ext_getElem
    · simp [pathsOf]
    · intro k h1 h2
      simp only [pathsOf, List.getElem_map, List.getElem_ofFn]
      exact (Classical.choose_spec (each ⟨k, h2⟩)).1
  · have hlen : (List.ofFn fun j => Classical.choose (each j)).length = ll.length := List.length_ofFn
    refine Kd.C_of_reads (d := default) (h1 := fun _ => rfl) ⟨rfl, by rw [hlen]; exact h.2.1, fun hn => ?_⟩
    rw [hlen] at hn
    obtain ⟨ad, e, _⟩ := h.2.2 hn
    refine ⟨ad, e, fun j hj => ?_⟩
    rw [hlen] at hj
    obtain ⟨ad', e', hx⟩ := (Classical.choose_spec (each ⟨j, hj⟩)).2
    rw [e] at e'
    injection e' with e'
    subst e'
    rw [hx]
    simp [List.getD, hj]
theorem pathsOf_length {w : World} (d : List (VPE w)) : (pathsOf d).length = d.length := by simp [pathsOf]

set_option maxHeartbeats 1000000 in
theorem clones_calls (w : World) (A : Option Addr) (c : Nat) (d : List (VPE w)) (hr : Kd.C (VK w) w A d.length d) (hc : d.length ≤ c) (hl : d.length ≤ 1099511627776) :
    Calls Tryd.prog 47 #[.slice A d.length c] w fun e w' => ∃ v, e = .returned v ∧ Kd.R (VK w) 23 w' w.heap.size (fun _ => True) v d ∧ Below w.heap.size w w' := by
  have hq := fun W => Lib.run_eql_slice_nil (P := Tryd.prog) W 43 23 A d.length c 0 0 Tryd.underlying43
  have HR := Lib.hid hr
  clear hr
  cases A with
  | none =>
    go_enter Tryd.func47, Tryd.ntmps47
    go_wp2
    go_ret
    refine ⟨_, rfl, ?_, Below.refl _ _⟩
    have : d = [] := by
      rcases Nat.eq_zero_or_pos d.length with h | h
      · exact List.length_eq_zero_iff.1 h
      · obtain ⟨ad, h', _⟩ := HR.out.2.2 h; cases h'
    subst this
    exact Kd.R_nil _ _ _ _ _
  | some ad =>
    go_enter Tryd.func47, Tryd.ntmps47
    go_wp2_with (at_builtin; refine Kd.R_append_row (encV w) default (h1 := fun _ => rfl) (w0 := w) w.heap.size rfl (.tmp 5) (.tmp 6) 43 23 (.slice none 0 0) 24 rfl Tryd.underlying43 info_path rfl (by decide) _ [] d (some ad) d.length c (fun _ => True) rfl rfl (fun _ _ => trivial) ?aO ?aR ?aB ?aS ?aL ?_; (case aO => exact R_lit0 _ _ _ _ _ (Nat.le_refl _) (fun _ _ => trivial)); (case aR => exact Kd.C_below HR.out ((Below.refl _ _).alloc (Nat.le_refl _) _)); (case aB => exact (Below.refl _ _).alloc (Nat.le_refl _) _); (case aS => simp); (case aL => simp; omega); intro v1 w1 ho hb hg hat)
    go_ret
    exact ⟨_, rfl, ho, hb⟩

/-! ### The sort -/
def cmpV {w : World} (x y : VPE w) : Int := cmpP x.1.l y.1.l
theorem cmpV_swo (w : World) : SWO (ltOf (cmpV (w := w))) := by
  refine ⟨fun x => ?_, fun x y z h1 h2 => ?_, fun x y z h1 h2 => ?_⟩
  · unfold ltOf cmpV
    rw [cmp_self]
    rfl
  · unfold ltOf cmpV at *
    have h1 := of_decide_eq_true h1
    have h2 := of_decide_eq_true h2
    exact decide_eq_true (cmp_lt_trans h1 (by omega))
  · unfold ltOf cmpV at *
    have h1 := of_decide_eq_false h1
    have h2 := of_decide_eq_false h2
    have a1 := cmp_anti x.1.l y.1.l
    have a2 := cmp_anti y.1.l z.1.l
    have a3 := cmp_anti x.1.l z.1.l
    have := cmp_trans (a := z.1.l) (b := y.1.l) (c := x.1.l) (by omega) (by omega)
    exact decide_eq_false (by omega)
theorem sort_below {α : Type} [Inhabited α] {enc : α → Value} {w W : World} {blk off m : Nat} {dk : Array α} {os : Array Obj} {N : Nat} (hb : Below N w W) (hblk : N ≤ blk) (hN : N ≤ W.heap.size) : Below N w (sortWorld enc W blk off m dk os) := by
  refine ⟨hb.os, hb.tape, hb.output, ?_, fun k hk => ?_⟩
  · have : (sortWorld enc W blk off m dk os).heap.size = W.heap.size + os.size := by simp [sortWorld, grow, putRow, mapBlock, Sort.ahead]
    have := hb.size
    omega
  · have h1 : (sortWorld enc W blk off m dk os).heap[k]? = (putRow enc (Sort.ahead W m) blk off dk).heap[k]? := heap_grow_old _ _ (by simp [putRow, mapBlock, Sort.ahead]; omega)
    rw [h1]
    have h2 : (putRow enc (Sort.ahead W m) blk off dk).heap[k]? = W.heap[k]? := by
      show (W.heap.modify blk _)[k]? = _
      rw [Array.getElem?_modify, if_neg (by omega)]
    rw [h2]
    exact hb.block k hk
theorem cmp_reads {w W : World} (blk off size : Nat) (hb : Below w.heap.size w W) (hblk : w.heap.size ≤ blk) :
    CmpReads Tryd.prog 22 #[] (encV w) cmpV blk off size W := by
  intro m os dk hs x y
  have hB := sort_below (enc := encV w) (off := off) (m := m) (dk := dk) (os := os) hb hblk hb.size
  exact compare_calls x.1.A x.1.c x.1.l y.1.A y.1.c y.1.l _ (Kd.C_below x.2.1 hB) x.2.2.1 (Kd.C_below y.2.1 hB) y.2.2.1 (by have := x.2.2.2; omega)

theorem getBang {α : Type} [Inhabited α] (d : List α) (j : Nat) (h : j < d.length) : d.toArray[j]! = d[j] := by
  rw [getElem!_pos d.toArray j (by simpa using h)]
  simp
theorem perm_list {α : Type} [Inhabited α] {d d' : Array α} (h : PermIn 0 d.size d d') : d'.toList.Perm d.toList := by
  obtain ⟨h1, _, h3⟩ := h
  have e1 : d'.extract 0 d.size = d' := by rw [← h1]; simp
  have e2 : d.extract 0 d.size = d := by simp
  rw [e1, e2] at h3
  exact h3
theorem sorted_list {w : World} {d' : Array (VPE w)} {n : Nat} (hn : n = d'.size) (h : SortedIn (ltOf (cmpV (w := w))) 0 n d') : sortedP (pathsOf d'.toList) := by
  unfold sortedP pathsOf
  rw [List.pairwise_map, List.pairwise_iff_getElem]
  intro i j hi hj hij
  have hj' : j < d'.size := by simpa using hj
  have h1 := h i j (by omega) hij (by omega)
  unfold ltOf cmpV at h1
  have h2 := of_decide_eq_false h1
  rw [getElem!_pos d' j (by omega), getElem!_pos d' i (by omega)] at h2
  have h3 := cmp_anti (d'[i]'(by omega)).1.l (d'[j]'(by omega)).1.l
  simp only [Array.getElem_toList]
  omega

theorem sort_calls {w W : World} {g cap : Nat} (d : List (VPE w)) (h0 : 0 < d.length) (hl : d.length ≤ 1099511627776) (hb : Below w.heap.size w W) (hR : Kd.R (VK w) 23 W w.heap.size (fun _ => True) (.slice (some ⟨g, 0, none⟩) d.length cap) d) :
    Calls Tryd.prog 48 #[.slice (some ⟨g, 0, none⟩) d.length cap, .func (.func 22) #[] #[]] W fun e w' => e = .returned (.tuple #[]) ∧
      ∃ d' : List (VPE w), d'.Perm d ∧ sortedP (pathsOf d') ∧ Kd.C (VK w) w' (some ⟨g, 0, none⟩) d'.length d' ∧ Below w.heap.size w w' := by
  have hlt := Kd.R_lt hR g (by simp [Value.ownBlock])
  obtain ⟨inner, how⟩ := Kd.R_own hR
  have hge : w.heap.size ≤ g := own_base how g (by simp [Value.ownBlock])
  have hH : Holds (encV w) W g 0 d.toArray := by
    intro j hj
    have hj' : j < d.length := by simpa using hj
    obtain ⟨c1, c2⟩ := Kd.R_celln (d := default) hR (j : Int) (by omega) (by omega)
    rw [Int.toNat_natCast] at c1 c2
    rw [Nat.zero_add]
    refine ⟨?_, c2⟩
    rw [c1, getBang d j hj']
    simp [rdOf, hj']
  have H := Any.slices_SortFunc (P := Tryd.prog) Tryd.sortPaths (encV w) (fun _ => rfl) cmpV (cmpV_swo w) 22 #[] g 0 cap d.toArray W (enters_of Tryd.func22 (by kernel_rfl) rfl)
    (cmp_reads g 0 d.toArray.size hb hge).lays hH hlt (by simp; omega)
  rw [show d.toArray.size = d.length by simp] at H
  refine H.mono ?_
  rintro e w' ⟨rfl, d', n, os, hp, hs, rfl⟩
  have hsz : d'.size = d.length := by have := hp.1; simpa using this
  refine ⟨rfl, d'.toList, ?_, sorted_list hsz.symm hs, ?_, sort_below hb hge hb.size⟩
  · have := perm_list (d := d.toArray) (d' := d') (by simpa using hp)
    simpa using this
  · refine Kd.C_of_reads (d := default) (h1 := fun _ => rfl) ⟨rfl, by simp; omega, fun _ => ⟨_, rfl, fun j hj => ?_⟩⟩
    have hj' : j < d'.size := by simpa using hj
    have hc := SW.c1 (W := sortWorld (encV w) W g 0 n d' os) ⟨n, os, rfl⟩ ⟨(fun _ => rfl), hH, hlt⟩ (by simpa using hsz) j hj'
    have ha : (⟨g, 0, none⟩ : Addr).add j = ⟨g, 0 + j, none⟩ := by
      unfold Addr.add
      split
      · rename_i h; subst h; rfl
      · rfl
    rw [ha, hc, getElem!_pos d' j hj']
    simp [List.getD, hj']
end Go.Proofs.YtdhchmonmbppmaaDoor.G
