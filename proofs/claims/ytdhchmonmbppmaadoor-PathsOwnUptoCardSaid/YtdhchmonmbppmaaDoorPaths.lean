/- paths.text, Print, Parent, Join, Relative, Compare: contracts over lists of texts. -/
import Derived.Test.YtdhchmonmbppmaaDoorBoth
import Derived.Test.YtdhchmonmbppmaaDoorRef2
import Derived.Deep.RegionWith
import Derived.IntWalk
namespace Go.Proofs.YtdhchmonmbppmaaDoor.G
open Go.RowKit Go.Lib Go.Proofs.YtdhchmonmbppmaaDoorW.PrintWords Go.Proofs.YtdhchmonmbppmaaDoorW.PrintLast
set_option linter.unusedVariables false

def joinL (l : List ByteArray) (sep : List UInt8) : List UInt8 := Lib.join (l.map (·.data.toList)) sep

theorem C_addr {w : World} {ad : Addr} {l : List ByteArray} (h : Kd.C Kd.string w (some ad) l.length l) (h0 : 0 < l.length) :
    ∃ b o, ad = ⟨b, o, none⟩ ∧ b < w.heap.size ∧ ∀ (j : Nat) x, l[j]? = some x → w.cell? ⟨b, o + j, none⟩ = some (.string x) := by
  have hcell : ∀ (j : Nat) x, l[j]? = some x → w.cell? (ad.add j) = some (.string x) := by
    intro j x hj
    have hlt : j < l.length := (List.getElem?_eq_some_iff.1 hj).1
    obtain ⟨ad', e, hx⟩ := Kd.at_string h (j : Int) (by omega) (by omega)
    cases e
    rw [Int.toNat_natCast] at hx
    rw [hx]
    simp [rdOf, List.getD, hj]
  obtain ⟨b, o, sp⟩ := ad
  have h1 := hcell 0 l[0] (by simp [h0])
  have hsp : sp = none := by
    cases sp with
    | none => rfl
    | some s =>
      simp only [Addr.add, if_true, World.cell?] at h1
      split at h1 <;> simp at h1
  subst hsp
  refine ⟨b, o, rfl, World.block_lt_of_cell? w _ h1, ?_⟩
  intro j x hj
  have := hcell j x hj
  unfold Addr.add at this
  split at this
  · rename_i e; subst e; exact this
  · exact this
theorem C_none {w : World} {l : List ByteArray} (h : Kd.C Kd.string w none l.length l) : l = [] := by
  rcases Nat.eq_zero_or_pos l.length with h0 | h0
  · exact List.length_eq_zero_iff.1 h0
  · obtain ⟨ad, h', _⟩ := Kd.at_string h 0 (by omega) (by omega); cases h'

theorem strJoin_calls (A : Option Addr) (c : Nat) (l : List ByteArray) (sep : ByteArray) (w : World) (hr : Kd.C Kd.string w A l.length l) (hc : l.length ≤ c) (hl : l.length ≤ 8796093022208) (hlen : (joinL l sep.data.toList).length ≤ 140737488355328) :
    Calls Tryd.prog 44 #[.slice A l.length c, .string sep] w fun e w' => e = .returned (.string ⟨(joinL l sep.data.toList).toArray⟩) ∧ Below w.heap.size w w' := by
  rcases Nat.eq_zero_or_pos l.length with h0 | h0
  · obtain rfl := List.length_eq_zero_iff.1 h0
    exact (Tryd.strings_Join_none A c sep w).mono fun e w' ⟨he, hw⟩ => ⟨he, hw ▸ Below.refl _ _⟩
  · cases A with
    | none => have := C_none hr; subst this; simp at h0
    | some ad =>
      obtain ⟨b, o, rfl, hb, hcell⟩ := C_addr hr h0
      exact Tryd.strings_Join b o c l sep w hcell hb (by omega) hc hlen

theorem mk_append (a b : Array UInt8) : (⟨a⟩ : ByteArray) ++ ⟨b⟩ = ⟨a ++ b⟩ := by
  apply ByteArray.ext
  simp
/-- A path's own text. -/
def tailL (l : List ByteArray) : List UInt8 := (l.map fun s => 47 :: s.data.toList).flatten
def textL (l : List ByteArray) : List UInt8 := if l = [] then [47] else tailL l
theorem joinL_tail {l : List ByteArray} (h : l ≠ []) : 47 :: joinL l [47] = tailL l := by
  cases l with
  | nil => exact absurd rfl h
  | cons s l =>
    unfold joinL tailL
    rw [List.map_cons, Lib.join_cons]
    simp [joinTail, List.map_map, Function.comp_def]
theorem tailL_len (l : List ByteArray) : ((tailL l).length : Int) = sumP l := by
  induction l with
  | nil => rfl
  | cons s l ih =>
    have hl : s.data.toList.length = s.size := (Lib.size_eq s).symm
    simp only [tailL, sumP, List.map_cons, List.flatten_cons, List.length_append, List.length_cons, List.sum_cons] at ih ⊢
    omega
theorem textL_len (l : List ByteArray) : ((textL l).length : Int) = sizeP l := by
  unfold textL sizeP
  split
  · rename_i h; subst h; simp [sumP]; decide
  · rename_i h
    rw [tailL_len]
    cases l with
    | nil => exact absurd rfl h
    | cons s l => have := sumP_nonneg l; simp only [sumP, List.map_cons, List.sum_cons] at this ⊢; omega
theorem joinL_len {l : List ByteArray} : ((joinL l [47]).length : Int) ≤ sumP l := by
  by_cases h : l = []
  · subst h; simp [joinL, Lib.join_nil, sumP]
  · have := congrArg List.length (joinL_tail h)
    have h2 := tailL_len l
    simp at this
    omega

set_option maxHeartbeats 1000000 in
theorem text_calls (A : Option Addr) (c : Nat) (l : List ByteArray) (w : World) (hr : Kd.C Kd.string w A l.length l) (hc : l.length ≤ c) (hl : l.length ≤ 8796093022208) (hs : sumP l ≤ 140737488355328) :
    Calls Tryd.prog 42 #[.slice A l.length c] w fun e w' => e = .returned (.string ⟨(textL l).toArray⟩) ∧ Below w.heap.size w w' := by
  by_cases h0 : l = []
  · subst h0
    go_enter Tryd.func42, Tryd.ntmps42
    go_wp2
    go_ret
    exact ⟨rfl, Below.refl _ _⟩
  · have hz : ((l.length : Int) == 0) = false := beq_eq_false_iff_ne.2 (by intro h; exact h0 (List.length_eq_zero_iff.1 (by omega)))
    have hj := joinL_len (l := l)
    have H := Lib.hid (fun W h => strJoin_calls A c l ⟨#[47]⟩ W h hc hl (by show (joinL l [47]).length ≤ _; omega))
    have HT := Lib.hid (show textL l = 47 :: joinL l [47] by rw [joinL_tail h0, textL, if_neg h0])
    have HR := Lib.hid hr
    have hjl : (joinL l [47]).length ≤ 140737488355328 := by omega
    clear hr h0 hj hs
    generalize textL l = T at *
    go_enter Tryd.func42, Tryd.ntmps42
    go_wp2_with (go_at_call 44; refine (H.out _ HR.out).mono ?_; rintro e w' ⟨rfl, hb⟩)
    go_ret
    refine ⟨?_, hb⟩
    rw [HT.out]
    show Ending.returned (.string (⟨#[47]⟩ ++ ⟨(joinL l [47]).toArray⟩)) = _
    rw [mk_append]
    simp

def bs (l : List UInt8) : Value := .string ⟨l.toArray⟩
set_option maxHeartbeats 1000000 in
theorem print_yes (A : Option Addr) (c : Nat) (l : List ByteArray) (w : World) (hr : Kd.C Kd.string w A l.length l) (hc : l.length ≤ c) (hl : l.length ≤ 8796093022208) (hs : sumP l ≤ 140737488355328) (hR : rightB l = true) :
    Calls Tryd.prog 17 #[.slice A l.length c] w fun e w' => e = .returned (.tuple #[.string ⟨(textL l).toArray⟩, .int .i64 0]) ∧ Below w.heap.size w w' := by
  have H1 := Lib.hid (fun W h => right_calls A c l W h hc (by omega) hl)
  have H2 := Lib.hid (fun W h => text_calls A c l W h hc hl hs)
  rw [hR] at H1
  have HR := Lib.hid hr
  clear hr hR hs
  generalize textL l = T at *
  go_enter Tryd.func17, Tryd.ntmps17
  go_wp2_with (first | (go_at_call 16; refine (H1.out _ HR.out).mono ?_; rintro e w1 ⟨rfl, hb⟩) | (go_at_call 42; refine (H2.out _ (Kd.C_below HR.out hb)).mono ?_; rintro e w2 ⟨rfl, hb2⟩))
  go_ret2
  exact ⟨rfl, bstep hb hb.size hb2⟩
set_option maxHeartbeats 1000000 in
theorem print_no (A : Option Addr) (c : Nat) (l : List ByteArray) (w : World) (hr : Kd.C Kd.string w A l.length l) (hc : l.length ≤ c) (hl : l.length ≤ 8796093022208) (hs : sumP l ≤ 140737488355328) (hR : rightB l = false) :
    Calls Tryd.prog 17 #[.slice A l.length c] w fun e w' => e = .returned (.tuple #[.string ⟨#[]⟩, .int .i64 20]) ∧ Below w.heap.size w w' := by
  have H1 := Lib.hid (fun W h => right_calls A c l W h hc (by omega) hl)
  rw [hR] at H1
  have HR := Lib.hid hr
  clear hr hR hs
  go_enter Tryd.func17, Tryd.ntmps17
  go_wp2_with (go_at_call 16; refine (H1.out _ HR.out).mono ?_; rintro e w1 ⟨rfl, hb⟩)
  go_ret2
  exact ⟨rfl, hb⟩
def printR (l : List ByteArray) : List UInt8 × Int := if rightB l then (textL l, 0) else ([], 20)
theorem print_calls (A : Option Addr) (c : Nat) (l : List ByteArray) (w : World) (hr : Kd.C Kd.string w A l.length l) (hc : l.length ≤ c) (hl : l.length ≤ 8796093022208) (hs : sumP l ≤ 140737488355328) :
    Calls Tryd.prog 17 #[.slice A l.length c] w fun e w' => e = .returned (.tuple #[.string ⟨(printR l).1.toArray⟩, .int .i64 (printR l).2]) ∧ Below w.heap.size w w' := by
  unfold printR
  cases hR : rightB l
  · exact print_no A c l w hr hc hl hs hR
  · exact print_yes A c l w hr hc hl hs hR

/-! ### Parent -/
theorem C_take {w : World} {A : Option Addr} {l : List ByteArray} (h : Kd.C Kd.string w A l.length l) (k : Nat) (hk : k ≤ l.length) : Kd.C Kd.string w A (l.take k).length (l.take k) := by
  refine Kd.C_of_reads (d := ByteArray.empty) ?_
  have := (Kd.reads_of_C (d := ByteArray.empty) h).take_ k hk
  rw [List.length_take, Nat.min_eq_left hk]
  exact this
set_option maxHeartbeats 2000000 in
theorem parent_walk (ad : Addr) (c n : Nat) (l : List ByteArray) (last : ByteArray) (w : World) (hc : n + 1 ≤ c) (hl : n ≤ 4398046511104)
    (hcl : ∀ W, Below w.heap.size w W → Calls Tryd.prog 32 #[.slice (some ad) n c] W fun e w' => ∃ v, e = .returned v ∧ Kd.R Kd.string 9 w' w.heap.size (fun _ => True) v l ∧ Below w.heap.size w w')
    (hcell : ∀ W, Below w.heap.size w W → W.cell? (ad.add n) = some (.string last)) :
    Calls Tryd.prog 19 #[.slice (some ad) (n + 1) c] w fun e w' => ∃ v, e = .returned (.tuple #[v, .string last, .bool true]) ∧ Kd.R Kd.string 9 w' w.heap.size (fun _ => True) v l ∧ Below w.heap.size w w' := by
  have hz : ((n : Int) + 1 == 0) = false := beq_eq_false_iff_ne.2 (by omega)
  have hcn : (n : Int) ≤ (c : Int) := by omega
  have hn1 : (n : Int) < (n : Int) + 1 := by omega
  have hwn : IntKind.i64.wrap (n : Int) = (n : Int) := IntWalk.i64_in _ (by omega)
  have HC := Lib.hid hcl
  have HX := Lib.hid hcell
  have hx0 := hcell w (Below.refl _ _)
  clear hcl hcell
  go_enter Tryd.func19, Tryd.ntmps19
  go_wp2
  go_region_with (go_at_call 32; refine (HC.out _ (bdrew (Below.refl _ _))).mono ?_; rintro e w1 ⟨v, rfl, ho, hb⟩; have hx := HX.out w1 hb)
  all_goals
    go_wp2
    go_ret3
    exact ⟨_, rfl, ho, hb⟩

def lastP (l : List ByteArray) : ByteArray := l.getLastD ⟨#[]⟩
theorem parent_calls (A : Option Addr) (c : Nat) (l : List ByteArray) (w : World) (hr : Kd.C Kd.string w A l.length l) (hc : l.length ≤ c) (hl : l.length ≤ 4398046511104) :
    Calls Tryd.prog 19 #[.slice A l.length c] w fun e w' => ∃ v, e = .returned (.tuple #[v, .string (lastP l), .bool (!l.isEmpty)]) ∧ Kd.R Kd.string 9 w' w.heap.size (fun _ => True) v l.dropLast ∧ Below w.heap.size w w' := by
  rcases List.eq_nil_or_concat l with rfl | ⟨l', last, rfl⟩
  · have hz : (((0 : Nat) : Int) == 0) = true := rfl
    go_enter Tryd.func19, Tryd.ntmps19
    go_wp2
    go_ret3
    exact ⟨_, rfl, Kd.R_nil _ _ _ _ _, Below.refl _ _⟩
  · rw [List.concat_eq_append] at *
    have hlen : (l' ++ [last]).length = l'.length + 1 := by simp
    cases A with
    | none => have := C_none hr; simp at this
    | some ad =>
      have hcell : ∀ W, Below w.heap.size w W → W.cell? (ad.add l'.length) = some (.string last) := by
        intro W hb
        obtain ⟨ad', e, hx⟩ := Kd.at_string hr (l'.length : Int) (by omega) (by omega)
        cases e
        rw [Int.toNat_natCast] at hx
        rw [(hb.cell (World.block_lt_of_cell? w _ hx)).trans hx]
        simp [rdOf]
      have ht := C_take hr l'.length (by omega)
      rw [List.take_left'  rfl] at ht
      have := parent_walk ad c l'.length l' last w (by omega) (by omega) (fun W hb => (clone_calls (some ad) c l' W (Kd.C_below ht hb) (by omega) (by omega)).mono fun e w' ⟨v, he, hR, hb2⟩ => ⟨v, he, Kd.R_lower hR hb.size, bstep hb hb.size hb2⟩) hcell
      rw [hlen]
      have he : (l' ++ [last]).isEmpty = false := by cases l' <;> rfl
      rw [he]
      simpa [lastP] using this

/-! ### Join -/
def joinR (l : List ByteArray) (name : ByteArray) : List ByteArray × Int :=
  if rightB l && nameB name.data.toList then (if sizeP (l ++ [name]) ≤ 1024 then (l ++ [name], 0) else ([], 4)) else ([], 20)
theorem sumP_snoc (l : List ByteArray) (s : ByteArray) : sumP (l ++ [s]) = sumP l + (1 + (s.size : Int)) := by simp [sumP, List.sum_append]
set_option maxHeartbeats 4000000 in
set_option maxRecDepth 100000 in
theorem pjoin_calls (A : Option Addr) (c : Nat) (l : List ByteArray) (name : ByteArray) (w : World) (hr : Kd.C Kd.string w A l.length l) (hc : l.length ≤ c) (hl : l.length ≤ 4398046511104) (hs : sumP l ≤ 140737488355328) (hn : name.size ≤ 140737488355328) :
    Calls Tryd.prog 21 #[.slice A l.length c, .string name] w fun e w' => ∃ v, e = .returned (.tuple #[v, .int .i64 (joinR l name).2]) ∧ Kd.R Kd.string 9 w' w.heap.size (fun _ => True) v (joinR l name).1 ∧ Below w.heap.size w w' := by
  have H1 := Lib.hid (fun W h => right_calls A c l W h hc (by omega) (by omega))
  have H2 := Lib.hid (fun W => paths_Name.calls name (nameB name.data.toList) W rfl)
  have H3 := Lib.hid (fun W h => clone_calls A c l W h hc (by omega))
  have hsum : sumP (l ++ [name]) ≤ 4611686018427387904 := by rw [sumP_snoc]; omega
  have H4 := Lib.hid (fun A' c' W h hc' => size_calls A' c' (l ++ [name]) W h hc' hsum (by simp; omega))
  have HR := Lib.hid hr
  have HQ := Lib.hid (show joinR l name = if rightB l && nameB name.data.toList then (if sizeP (l ++ [name]) ≤ 1024 then (l ++ [name], 0) else ([], 4)) else ([], 20) from rfl)
  clear hr hs hn hsum
  generalize joinR l name = Q at *
  cases h1 : rightB l
  · rw [h1] at H1
    have HQ2 := Lib.hid (show Q = ([], 20) by rw [HQ.out, h1]; rfl)
    clear HQ h1
    go_enter Tryd.func21, Tryd.ntmps21
    go_wp2_with (go_at_call 16; refine (H1.out _ HR.out).mono ?_; rintro e w1 ⟨rfl, hb⟩)
    go_ret2
    exact ⟨_, by rw [HQ2.out]; rfl, by rw [HQ2.out]; exact Kd.R_nil _ _ _ _ _, hb⟩
  · cases h2 : nameB name.data.toList
    · rw [h1] at H1
      rw [h2] at H2
      have HQ2 := Lib.hid (show Q = ([], 20) by rw [HQ.out, h1, h2]; rfl)
      clear HQ h1 h2
      go_enter Tryd.func21, Tryd.ntmps21
      go_wp2_with (first | (go_at_call 16; refine (H1.out _ HR.out).mono ?_; rintro e w1 ⟨rfl, hb⟩) | (go_at_call 41; refine (H2.out _).mono ?_; rintro e w2 ⟨rfl, hb2⟩))
      go_ret2
      exact ⟨_, by rw [HQ2.out]; rfl, by rw [HQ2.out]; exact Kd.R_nil _ _ _ _ _, bstep hb hb.size hb2⟩
    · rw [h1] at H1
      rw [h2] at H2
      have HQ2 := Lib.hid (show Q = (if sizeP (l ++ [name]) ≤ 1024 then (l ++ [name], 0) else ([], 4)) by rw [HQ.out, h1, h2]; rfl)
      clear HQ h1 h2
      obtain ⟨l2, hl2⟩ : ∃ l2, l ++ [name] = l2 := ⟨_, rfl⟩
      rw [hl2] at HQ2 H4
      have HL2 := Lib.hid hl2
      clear hl2
      by_cases h3 : sizeP l2 ≤ 1024
      all_goals
        have HQ3 := HQ2.out
        first | rw [if_pos h3] at HQ3 | rw [if_neg h3] at HQ3
        have HQ4 := Lib.hid HQ3
        clear HQ2 HQ3
        generalize sizeP l2 = sz at *
        go_enter Tryd.func21, Tryd.ntmps21
        go_wp2_with (first | (go_at_call 16; refine (H1.out _ HR.out).mono ?_; rintro e w1 ⟨rfl, hb⟩) | (go_at_call 41; refine (H2.out _).mono ?_; rintro e w2 ⟨rfl, hb2⟩; have hb3 := bstep hb hb.size hb2; clear hb hb2) | (go_at_call 32; refine (H3.out _ (Kd.C_below HR.out hb3)).mono ?_; rintro e w3 ⟨v, rfl, ho, hb4⟩; have HO := Lib.hid (Kd.R_lower ho hb3.size); have hb5 := bstep hb3 hb3.size hb4; have hsz5 := hb5.size; clear ho hb3 hb4) | (at_builtin; refine Kd.R_append Kd.string (w0 := w) w.heap.size rfl (.tmp 16) (.tmp 18) 23 9 (.string ⟨#[]⟩) 16 rfl Tryd.underlying23 info_str rfl (by decide) (by decide) _ l name [.string name] (fun _ => True) (fun _ => False) rfl rfl ?aP (fun _ hk => hk.elim) ?aF ?aO ?aB ?aS ?aL ?_; (case aP => exact rfl); (case aF => exact (fun _ _ => trivial)); (case aO => exact HO.out); (case aB => exact hb5); (case aS => exact hsz5); (case aL => omega); intro v1 w4 ho4 hb6 hg hat; rw [HL2.out] at ho4; obtain ⟨A', c', hv1, hc', hC⟩ := Kd.R_reads ho4; rw [hv1]; have HV := Lib.hid hv1; have HO4 := Lib.hid ho4; have HC := Lib.hid hC; clear hv1 hg hat ho4 hC HO hb5) | (go_at_call 34; refine (H4.out _ _ _ HC.out hc').mono ?_; rintro e w5 ⟨rfl, hw5⟩; rw [hw5]))
        go_ret2
      · exact ⟨_, by rw [HQ4.out]; rfl, by rw [HQ4.out, ← HV.out]; exact HO4.out, hb6⟩
      · exact ⟨_, by rw [HQ4.out]; rfl, by rw [HQ4.out]; exact Kd.R_nil _ _ _ _ _, hb6⟩

end Go.Proofs.YtdhchmonmbppmaaDoor.G
