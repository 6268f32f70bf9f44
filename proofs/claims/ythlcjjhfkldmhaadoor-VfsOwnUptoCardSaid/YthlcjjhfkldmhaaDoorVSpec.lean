/- Package vfs, plain: what a call does to a tree. -/
import Derived.Test.YthlcjjhfkldmhaaDoorTTurn
import Derived.Test.YthlcjjhfkldmhaaDoorTDrop
import Derived.Test.YthlcjjhfkldmhaaDoorTHd
import Derived.Test.YthlcjjhfkldmhaaDoorTPut
import Derived.Test.YthlcjjhfkldmhaaDoorVWalkS
set_option linter.unusedVariables false
set_option linter.unusedSimpArgs false
section
namespace Go.Proofs.YthlcjjhfkldmhaaDoor.G
open Go.RowKit Go.Lib Go.Proofs.YthlcjjhfkldmhaaDoorW.PrintWords Go.Proofs.YthlcjjhfkldmhaaDoorW.PrintLast
set_option linter.unusedVariables false

theorem nameIs_iff {n : ByteArray} {x : File} : nameIs n x = true ↔ x.name = n := by
  unfold nameIs
  constructor
  · intro h
    exact toList_inj.1 (eq_of_beq h)
  · intro h
    rw [h]
    exact beq_self_eq_true _
theorem nameIs_ne {n : ByteArray} {x : File} (h : x.name ≠ n) : nameIs n x = false := by
  cases hh : nameIs n x
  · rfl
  · exact absurd (nameIs_iff.1 hh) h
theorem low_less {l : List File} {n : ByteArray} : ∀ x ∈ l.take (lowB l n), lessB x.name n = true := by
  intro x hx
  unfold lowB at hx
  rw [← List.prefix_iff_eq_take.1 (List.takeWhile_prefix _)] at hx
  exact List.all_eq_true.1 (List.all_takeWhile (p := fun x : File => lessB x.name n) (l := l)) x hx
theorem low_not {l : List File} {n : ByteArray} {x : File} (h : l[lowB l n]? = some x) : lessB x.name n = false := by
  have hd : l.drop (lowB l n) = l.dropWhile fun x => lessB x.name n := by
    unfold lowB
    have h1 := List.takeWhile_append_dropWhile (p := fun x : File => lessB x.name n) (l := l)
    have h2 : (l.takeWhile (fun x => lessB x.name n) ++ l.dropWhile (fun x => lessB x.name n)).drop (l.takeWhile fun x => lessB x.name n).length = l.dropWhile fun x => lessB x.name n := List.drop_left
    rwa [h1] at h2
  have h2 : (l.drop (lowB l n)).head? = some x := by rw [List.head?_drop]; exact h
  rw [hd] at h2
  have h3 := List.head?_dropWhile_not (fun x : File => lessB x.name n) l
  rw [h2] at h3
  simpa using h3
theorem less_ne {a b : ByteArray} (h : lessB a b = true) : a ≠ b := fun e => by
  rw [e, less_irrefl] at h
  cases h
/-- In a sorted folder the search finds the one of the name. -/
theorem low_find {l : List File} (hs : SortedN l) (n : ByteArray) : (match l[lowB l n]? with | some x => if x.name.toList == n.toList then some x else none | none => none) = l.find? (nameIs n) := by
  have hpre : ∀ x ∈ l.take (lowB l n), nameIs n x = false := fun x hx => nameIs_ne (less_ne (low_less x hx))
  have hsp : l = l.take (lowB l n) ++ l.drop (lowB l n) := (List.take_append_drop _ _).symm
  have h1 : l.find? (nameIs n) = (l.drop (lowB l n)).find? (nameIs n) := by
    conv => lhs; rw [hsp]
    rw [List.find?_append, List.find?_eq_none.2 (fun x hx => by simp [hpre x hx])]
    rfl
  rw [h1]
  cases hx : l[lowB l n]? with
  | none =>
    have hlen := List.getElem?_eq_none_iff.1 hx
    rw [List.drop_of_length_le hlen]
    rfl
  | some x =>
    obtain ⟨hlt, hxe⟩ := List.getElem?_eq_some_iff.1 hx
    have hd : l.drop (lowB l n) = x :: l.drop (lowB l n + 1) := by rw [List.drop_eq_getElem_cons hlt, hxe]
    rw [hd, List.find?_cons]
    change _ = match nameIs n x with | true => some x | false => _
    simp only
    cases hnm : nameIs n x
    · have h2 : (x.name.toList == n.toList) = false := hnm
      rw [if_neg (by rw [h2]; decide)]
      symm
      simp only
      refine List.find?_eq_none.2 fun y hy => ?_
      have hxn : x.name ≠ n := fun e => by rw [nameIs_iff.2 e] at hnm; cases hnm
      have hnx := less_total (low_not hx) hxn
      obtain ⟨j, hj, hyj⟩ := List.mem_iff_getElem.1 hy
      rw [List.getElem_drop] at hyj
      rw [List.length_drop] at hj
      have hxy := sorted_lt hs (i := lowB l n) (j := lowB l n + 1 + j) (by omega) (by omega)
      rw [hxe, hyj] at hxy
      have := less_ne (less_trans hnx hxy)
      simp [nameIs_ne (Ne.symm this)]
    · have h2 : (x.name.toList == n.toList) = true := hnm
      rw [if_pos h2]
/-- One step of the way, by the name. -/
theorem goP_find {f : File} (hs : SortF f) (n : ByteArray) (p : List ByteArray) : goP f (n :: p) = if f.kind = 1 then (match f.files.find? (nameIs n) with | some x => goP x p | none => (31, none)) else (32, none) := by
  rw [SortF_eq] at hs
  rw [goP, ← low_find hs.1 n]
  split
  · cases f.files[lowB f.files n]? with
    | none => rfl
    | some x => simp only; split <;> rfl
  · rfl
theorem go_app : ∀ (q r : List ByteArray) (t d : File), goP t q = (0, some d) → goP t (q ++ r) = goP d r
  | [], r, t, d, h => by
    rw [goP] at h
    injection h with _ h
    injection h with h
    rw [h]
    rfl
  | a :: q, r, t, d, h => by
    obtain ⟨x, hk, hx, hn, hg⟩ := goP_full h
    rw [List.cons_append, goP_mk hk hx hn]
    exact go_app q r x d hg
theorem go_sort : ∀ (q : List ByteArray) (t d : File) (k : Int), SortF t → goP t q = (k, some d) → SortF d
  | [], t, d, k, hs, h => by
    rw [goP] at h
    injection h with _ h
    injection h with h
    exact h ▸ hs
  | a :: q, t, d, k, hs, h => by
    obtain ⟨x, hk, hx, hn, hg⟩ := goP_full h
    rw [SortF_eq] at hs
    exact go_sort q x d k (SortL_mem.1 hs.2 _ (List.mem_of_getElem? hx)) hg
theorem ins_shape (l : List File) (x : File) : ∃ r, insF l x = l.take (lowB l x.name) ++ x :: r ∧ (r = if foundB l x.name = true then l.drop (lowB l x.name + 1) else l.drop (lowB l x.name)) := by
  unfold insF
  split
  · exact ⟨_, rfl, rfl⟩
  · exact ⟨_, rfl, rfl⟩
theorem ins_at (l : List File) (x : File) : (insF l x)[lowB l x.name]? = some x := by
  obtain ⟨r, h, _⟩ := ins_shape l x
  have hl : (l.take (lowB l x.name)).length = lowB l x.name := by rw [List.length_take, Nat.min_eq_left (low_le _ _)]
  rw [h, List.getElem?_append_right (by omega), hl, Nat.sub_self]
  rfl
theorem go_none0 : ∀ {p : List ByteArray} {t : File}, goP t p ≠ (0, none)
  | [], t, h => by
    rw [goP] at h
    injection h with _ h
    cases h
  | n :: p, t, h => by
    rw [goP] at h
    split at h
    · split at h
      · split at h
        · exact go_none0 h
        · injection h with h _
          cases h
      · injection h with h _
        cases h
    · injection h with h _
      cases h
end Go.Proofs.YthlcjjhfkldmhaaDoor.G
end
section
section
namespace Go.Proofs.YthlcjjhfkldmhaaDoor.G
open Go.RowKit Go.Lib Go.Proofs.YthlcjjhfkldmhaaDoorW.PrintWords Go.Proofs.YthlcjjhfkldmhaaDoorW.PrintLast
set_option linter.unusedVariables false
set_option linter.unusedSimpArgs false

def nilR (t : File) : File × Int := if rightT t = true then (zeroF, 2) else (zeroF, 30)
def putA (t : File) (p : List ByteArray) (f : File) : File × Int := match p.getLast? with | none => nilR t | some n => putR t p.dropLast n f
def dropA (t : File) (p : List ByteArray) : File × Int := match p.getLast? with | none => nilR t | some n => dropR t p.dropLast n
theorem putA_nil (t f : File) : putA t [] f = nilR t := rfl
theorem dropA_nil (t : File) : dropA t [] = nilR t := rfl
theorem putA_snoc (t f : File) (q : List ByteArray) (n : ByteArray) : putA t (q ++ [n]) f = putR t q n f := by simp [putA]
theorem dropA_snoc (t : File) (q : List ByteArray) (n : ByteArray) : dropA t (q ++ [n]) = dropR t q n := by simp [dropA]
theorem nil_or_snoc (p : List ByteArray) : p = [] ∨ ∃ q n, p = q ++ [n] := by
  cases h : p.getLast? with
  | none => exact .inl (List.getLast?_eq_none_iff.1 h)
  | some n => exact .inr ⟨p.dropLast, n, by
      have hne : p ≠ [] := fun e => by subst e; simp at h
      rw [List.getLast?_eq_some_getLast hne] at h
      injection h with h
      rw [← h]
      exact (List.dropLast_concat_getLast hne).symm⟩
theorem zero_bulk4 : zeroF.bulk = 4 := by rw [bulk_eq]; rfl
theorem nil_bulk (t : File) : (nilR t).1.bulk ≤ 4 := by
  unfold nilR
  split <;> exact Nat.le_of_eq zero_bulk4
theorem dropA_bulk (t : File) (p : List ByteArray) : (dropA t p).1.bulk ≤ t.bulk + 4 := by
  rcases nil_or_snoc p with rfl | ⟨q, n, rfl⟩
  · rw [dropA_nil]
    have := nil_bulk t
    omega
  · have hz := zero_bulk4
    rw [dropA_snoc]
    unfold dropR
    split
    · cases hg : goP t (q ++ [n]) with
      | mk k o =>
        cases o with
        | none => simp only; omega
        | some y =>
          simp only
          cases hg2 : goP t q with
          | mk k2 o2 =>
            cases o2 with
            | none => simp only; omega
            | some d =>
              have h1 := bulk_dropX (n := n) hg2
              simp only
              omega
    · simp only; omega
/-- An answer whose reading hangs on the blocks from lo to hi. -/
def AnsS (lo hi : Nat) (g : File × Int) (e : Ending) (w' : World) : Prop := ∃ A' c', e = .returned (.tuple #[.agg #[.string g.1.name, .int .u8 g.1.kind, .string g.1.data, .slice A' g.1.files.length c'], .int .i64 g.2]) ∧ g.1.files.length ≤ c' ∧ ∀ W' : World, (∀ k, lo ≤ k → k < hi → W'.heap[k]? = w'.heap[k]?) → FileK.C W' A' g.1.files.length g.1.files
set_option maxHeartbeats 8000000 in
set_option maxRecDepth 100000 in
theorem tput0_calls (t f : File) (A Af : Option Addr) (c cf : Nat) (Ap : Option Addr) (cp : Nat) (w : World) (ht : FileK.C w A t.files.length t.files) (hc : t.files.length ≤ c) (hbt : t.bulk ≤ 1000000000) :
    Calls Tryd.prog 87 #[fileV t A c, .slice Ap 0 cp, fileV f Af cf] w fun e w' => ∃ A' c', e = .returned (.tuple #[.agg #[.string (nilR t).1.name, .int .u8 (nilR t).1.kind, .string (nilR t).1.data, .slice A' (nilR t).1.files.length c'], .int .i64 (nilR t).2]) ∧ (nilR t).1.files.length ≤ c' ∧ (∀ W' : World, FileK.C W' A' (nilR t).1.files.length (nilR t).1.files) ∧ Below w.heap.size w w' := by
  have h2 := three_all w #[.string t.name, .int .u8 t.kind, .string t.data, .slice A t.files.length c] #[.string f.name, .int .u8 f.kind, .string f.data, .slice Af f.files.length cf] #[.string ⟨#[]⟩, .int .u8 0, .string ⟨#[]⟩, .slice none 0 0] 25 25 25
  have hb0 := (((Below.refl w.heap.size w).alloc (Nat.le_refl _) (.cells #[.string t.name, .int .u8 t.kind, .string t.data, .slice A t.files.length c] 25)).alloc (by simp) (.cells #[.string f.name, .int .u8 f.kind, .string f.data, .slice Af f.files.length cf] 25)).alloc (by simp; omega) (.cells #[.string ⟨#[]⟩, .int .u8 0, .string ⟨#[]⟩, .slice none 0 0] 25)
  have I := Lib.hid (Hd.base hb0 (by first | exact Nat.le_refl _ | exact Below.size hb0))
  replace I := Lib.hid (Hd.and I.out (Hd.box (h2.1)))
  replace I := Lib.hid (Hd.and I.out (Hd.box (h2.2.1)))
  replace I := Lib.hid (Hd.and I.out (Hd.box (h2.2.2)))
  replace I := Lib.hid (Hd.and I.out (Hd.reads (Kd.C_below ht hb0)))
  clear h2
  obtain ⟨gr, hgr⟩ : ∃ g, nilR t = g := ⟨_, rfl⟩
  rw [hgr]
  unfold nilR at hgr
  have HG := Lib.hid hgr
  clear hgr ht
  go_enter Tryd.func87, Tryd.ntmps87
  unfold fileV
  have lt0 := cell_of (j := 0) I.out.now.2.2.2.1 rfl
  have lt1 := cell_of (j := 1) I.out.now.2.2.2.1 rfl
  have lt2 := cell_of (j := 2) I.out.now.2.2.2.1 rfl
  have lt3 := cell_of (j := 3) I.out.now.2.2.2.1 rfl
  go_wp2_with fail
  clear lt0 lt1 lt2 lt3
  generalize (((w.alloc (.cells #[.string t.name, .int .u8 t.kind, .string t.data, .slice A t.files.length c] 25)).alloc (.cells #[.string f.name, .int .u8 f.kind, .string f.data, .slice Af f.files.length cf] 25)).alloc (.cells #[.string ⟨#[]⟩, .int .u8 0, .string ⟨#[]⟩, .slice none 0 0] 25)) = W0 at *
  refine ((show Calls Tryd.prog 45 #[.agg #[.string t.name, .int .u8 t.kind, .string t.data, .slice A t.files.length c]] _ _ from right_calls t A c _ (by omega) I.out.now.1 hc)).mono ?_
  rintro e w1 ⟨rfl, hq1⟩
  replace I := Lib.hid (Hd.mv I.out hq1)
  cases hrt : rightT t
  · skip
    have HG1 := HG.out
    rw [hrt, if_neg (by decide)] at HG1
    replace HG1 := Lib.hid HG1
    have HZ := I.out.now.2.1
    have HZF := Lib.hid (store4_box HZ (.string ⟨#[]⟩) (.int .u8 0) (.string ⟨#[]⟩) (.slice none 0 0))
    have HB9 := Lib.hid (store4_below I.out.now.2.2.2.2 (g := w.heap.size + 2) (by omega) (.string ⟨#[]⟩) (.int .u8 0) (.string ⟨#[]⟩) (.slice none 0 0))
    have z0 := cell_of (j := 0) HZ rfl
    have u0 := unfr HZ 0
    have z1 := cell_of (j := 1) HZ rfl
    have u1 := unfr HZ 1
    have z2 := cell_of (j := 2) HZ rfl
    have u2 := unfr HZ 2
    have z3 := cell_of (j := 3) HZ rfl
    have u3 := unfr HZ 3
    go_wp2_with fail
    refine bodyPost_ret (results_ct rfl _ _ (w.heap.size + 2) 25 #[.string ⟨#[]⟩, .int .u8 0, .string ⟨#[]⟩, .slice none 0 0] (0, 0) _ rfl HZF.out Tryd.underlying25 rfl (by kernel_rfl)) rfl ?_
    rw [← HG1.out]
    exact ⟨none, 0, rfl, Nat.le_refl _, fun _ => Kd.C_nil FileK _, HB9.out⟩
  · skip
    have HG1 := HG.out
    rw [if_pos hrt] at HG1
    replace HG1 := Lib.hid HG1
    have HZ := I.out.now.2.1
    have HZF := Lib.hid (store4_box HZ (.string ⟨#[]⟩) (.int .u8 0) (.string ⟨#[]⟩) (.slice none 0 0))
    have HB9 := Lib.hid (store4_below I.out.now.2.2.2.2 (g := w.heap.size + 2) (by omega) (.string ⟨#[]⟩) (.int .u8 0) (.string ⟨#[]⟩) (.slice none 0 0))
    have z0 := cell_of (j := 0) HZ rfl
    have u0 := unfr HZ 0
    have z1 := cell_of (j := 1) HZ rfl
    have u1 := unfr HZ 1
    have z2 := cell_of (j := 2) HZ rfl
    have u2 := unfr HZ 2
    have z3 := cell_of (j := 3) HZ rfl
    have u3 := unfr HZ 3
    go_wp2_with fail
    refine bodyPost_ret (results_ct rfl _ _ (w.heap.size + 2) 25 #[.string ⟨#[]⟩, .int .u8 0, .string ⟨#[]⟩, .slice none 0 0] (0, 0) _ rfl HZF.out Tryd.underlying25 rfl (by kernel_rfl)) rfl ?_
    rw [← HG1.out]
    exact ⟨none, 0, rfl, Nat.le_refl _, fun _ => Kd.C_nil FileK _, HB9.out⟩

set_option maxHeartbeats 8000000 in
set_option maxRecDepth 100000 in
theorem tdrop0_calls (t : File) (A : Option Addr) (c : Nat) (Ap : Option Addr) (cp : Nat) (w : World) (ht : FileK.C w A t.files.length t.files) (hc : t.files.length ≤ c) (hbt : t.bulk ≤ 1000000000) :
    Calls Tryd.prog 86 #[fileV t A c, .slice Ap 0 cp] w fun e w' => ∃ A' c', e = .returned (.tuple #[.agg #[.string (nilR t).1.name, .int .u8 (nilR t).1.kind, .string (nilR t).1.data, .slice A' (nilR t).1.files.length c'], .int .i64 (nilR t).2]) ∧ (nilR t).1.files.length ≤ c' ∧ (∀ W' : World, FileK.C W' A' (nilR t).1.files.length (nilR t).1.files) ∧ Below w.heap.size w w' := by
  have h2 := two_boxes w #[.string t.name, .int .u8 t.kind, .string t.data, .slice A t.files.length c] #[.string ⟨#[]⟩, .int .u8 0, .string ⟨#[]⟩, .slice none 0 0] 25 25
  have hb0 := ((Below.refl w.heap.size w).alloc (Nat.le_refl _) (.cells #[.string t.name, .int .u8 t.kind, .string t.data, .slice A t.files.length c] 25)).alloc (by simp) (.cells #[.string ⟨#[]⟩, .int .u8 0, .string ⟨#[]⟩, .slice none 0 0] 25)
  have I := Lib.hid (Hd.base hb0 (by first | exact Nat.le_refl _ | exact Below.size hb0))
  replace I := Lib.hid (Hd.and I.out (Hd.box (h2.1)))
  replace I := Lib.hid (Hd.and I.out (Hd.box (h2.2)))
  replace I := Lib.hid (Hd.and I.out (Hd.reads (Kd.C_below ht hb0)))
  clear h2
  obtain ⟨gr, hgr⟩ : ∃ g, nilR t = g := ⟨_, rfl⟩
  rw [hgr]
  unfold nilR at hgr
  have HG := Lib.hid hgr
  clear hgr ht
  go_enter Tryd.func86, Tryd.ntmps86
  unfold fileV
  have lt0 := cell_of (j := 0) I.out.now.2.2.1 rfl
  have lt1 := cell_of (j := 1) I.out.now.2.2.1 rfl
  have lt2 := cell_of (j := 2) I.out.now.2.2.1 rfl
  have lt3 := cell_of (j := 3) I.out.now.2.2.1 rfl
  go_wp2_with fail
  clear lt0 lt1 lt2 lt3
  generalize ((w.alloc (.cells #[.string t.name, .int .u8 t.kind, .string t.data, .slice A t.files.length c] 25)).alloc (.cells #[.string ⟨#[]⟩, .int .u8 0, .string ⟨#[]⟩, .slice none 0 0] 25)) = W0 at *
  refine ((show Calls Tryd.prog 45 #[.agg #[.string t.name, .int .u8 t.kind, .string t.data, .slice A t.files.length c]] _ _ from right_calls t A c _ (by omega) I.out.now.1 hc)).mono ?_
  rintro e w1 ⟨rfl, hq1⟩
  replace I := Lib.hid (Hd.mv I.out hq1)
  cases hrt : rightT t
  · skip
    have HG1 := HG.out
    rw [hrt, if_neg (by decide)] at HG1
    replace HG1 := Lib.hid HG1
    have HZ := I.out.now.2.1
    have HZF := Lib.hid (store4_box HZ (.string ⟨#[]⟩) (.int .u8 0) (.string ⟨#[]⟩) (.slice none 0 0))
    have HB9 := Lib.hid (store4_below I.out.now.2.2.2 (g := w.heap.size + 1) (by omega) (.string ⟨#[]⟩) (.int .u8 0) (.string ⟨#[]⟩) (.slice none 0 0))
    have z0 := cell_of (j := 0) HZ rfl
    have u0 := unfr HZ 0
    have z1 := cell_of (j := 1) HZ rfl
    have u1 := unfr HZ 1
    have z2 := cell_of (j := 2) HZ rfl
    have u2 := unfr HZ 2
    have z3 := cell_of (j := 3) HZ rfl
    have u3 := unfr HZ 3
    go_wp2_with fail
    refine bodyPost_ret (results_ct rfl _ _ (w.heap.size + 1) 25 #[.string ⟨#[]⟩, .int .u8 0, .string ⟨#[]⟩, .slice none 0 0] (0, 0) _ rfl HZF.out Tryd.underlying25 rfl (by kernel_rfl)) rfl ?_
    rw [← HG1.out]
    exact ⟨none, 0, rfl, Nat.le_refl _, fun _ => Kd.C_nil FileK _, HB9.out⟩
  · skip
    have HG1 := HG.out
    rw [if_pos hrt] at HG1
    replace HG1 := Lib.hid HG1
    have HZ := I.out.now.2.1
    have HZF := Lib.hid (store4_box HZ (.string ⟨#[]⟩) (.int .u8 0) (.string ⟨#[]⟩) (.slice none 0 0))
    have HB9 := Lib.hid (store4_below I.out.now.2.2.2 (g := w.heap.size + 1) (by omega) (.string ⟨#[]⟩) (.int .u8 0) (.string ⟨#[]⟩) (.slice none 0 0))
    have z0 := cell_of (j := 0) HZ rfl
    have u0 := unfr HZ 0
    have z1 := cell_of (j := 1) HZ rfl
    have u1 := unfr HZ 1
    have z2 := cell_of (j := 2) HZ rfl
    have u2 := unfr HZ 2
    have z3 := cell_of (j := 3) HZ rfl
    have u3 := unfr HZ 3
    go_wp2_with fail
    refine bodyPost_ret (results_ct rfl _ _ (w.heap.size + 1) 25 #[.string ⟨#[]⟩, .int .u8 0, .string ⟨#[]⟩, .slice none 0 0] (0, 0) _ rfl HZF.out Tryd.underlying25 rfl (by kernel_rfl)) rfl ?_
    rw [← HG1.out]
    exact ⟨none, 0, rfl, Nat.le_refl _, fun _ => Kd.C_nil FileK _, HB9.out⟩

theorem dropS (t : File) (A : Option Addr) (c : Nat) (Ap : Option Addr) (cp : Nat) (p : List ByteArray) (w : World) (ht : FileK.C w A t.files.length t.files) (hc : t.files.length ≤ c) (hbt : t.bulk ≤ 1000000000) (hp : Kd.C Kd.string w Ap p.length p) (hcp : p.length ≤ cp) (hpl : p.length ≤ 1000000000) : Calls Tryd.prog 86 #[.agg #[.string t.name, .int .u8 t.kind, .string t.data, .slice A t.files.length c], .slice Ap p.length cp] w fun e w' => AnsS w.heap.size w'.heap.size (dropA t p) e w' ∧ Below w.heap.size w w' := by
  rcases nil_or_snoc p with rfl | ⟨q, n, rfl⟩
  · refine (show Calls Tryd.prog 86 #[fileV t A c, .slice Ap 0 cp] w _ from tdrop0_calls t A c Ap cp w ht hc hbt).mono ?_
    rintro e w' ⟨A', c', h1, h2, h3, hb⟩
    exact ⟨⟨A', c', h1, h2, fun W' _ => h3 W'⟩, hb⟩
  · rw [dropA_snoc]
    rw [List.length_append, List.length_singleton] at hcp hpl ⊢
    refine (show Calls Tryd.prog 86 #[fileV t A c, .slice Ap (q.length + 1) cp] w _ from drop_calls t A c Ap cp q n w ht hc hbt hp hcp (by omega)).mono ?_
    rintro e w' ⟨A', c', h1, h2, h3, hb⟩
    exact ⟨⟨A', c', h1, h2, h3⟩, hb⟩
theorem putS (t f : File) (A Af : Option Addr) (c cf : Nat) (Ap : Option Addr) (cp : Nat) (p : List ByteArray) (w : World) (ht : FileK.C w A t.files.length t.files) (hc : t.files.length ≤ c) (hbt : t.bulk ≤ 1000000000) (hp : Kd.C Kd.string w Ap p.length p) (hcp : p.length ≤ cp) (hpl : p.length ≤ 1000000000) (hf : FileK.C w Af f.files.length f.files) (hcf : f.files.length ≤ cf) (hbf : f.bulk ≤ 1000000000) (hn : ∀ n ∈ p, n.size ≤ 1000000000) : Calls Tryd.prog 87 #[.agg #[.string t.name, .int .u8 t.kind, .string t.data, .slice A t.files.length c], .slice Ap p.length cp, .agg #[.string f.name, .int .u8 f.kind, .string f.data, .slice Af f.files.length cf]] w fun e w' => AnsS w.heap.size w'.heap.size (putA t p f) e w' ∧ Below w.heap.size w w' := by
  rcases nil_or_snoc p with rfl | ⟨q, n, rfl⟩
  · refine (show Calls Tryd.prog 87 #[fileV t A c, .slice Ap 0 cp, fileV f Af cf] w _ from tput0_calls t f A Af c cf Ap cp w ht hc hbt).mono ?_
    rintro e w' ⟨A', c', h1, h2, h3, hb⟩
    exact ⟨⟨A', c', h1, h2, fun W' _ => h3 W'⟩, hb⟩
  · rw [putA_snoc]
    have hn1 := hn n (by simp)
    rw [List.length_append, List.length_singleton] at hcp hpl ⊢
    refine (show Calls Tryd.prog 87 #[fileV t A c, .slice Ap (q.length + 1) cp, fileV f Af cf] w _ from put_calls t f A Af c cf Ap cp q n w ht hc hbt hf hcf hbf hn1 hp hcp (by omega)).mono ?_
    rintro e w' ⟨A', c', h1, h2, h3, hb⟩
    exact ⟨⟨A', c', h1, h2, h3⟩, hb⟩
theorem sameC (x : File) (A B : Option Addr) (c d : Nat) (W : World) (hx : x.bulk ≤ 1099511627776) (hA : FileK.C W A x.files.length x.files) (hc : x.files.length ≤ c) (hB : FileK.C W B x.files.length x.files) (hd : x.files.length ≤ d) :
    Calls Tryd.prog 14 #[.agg #[.string x.name, .int .u8 x.kind, .string x.data, .slice A x.files.length c], .agg #[.string x.name, .int .u8 x.kind, .string x.data, .slice B x.files.length d]] W fun e w' => e = .returned (.bool true) ∧ Below W.heap.size W w' :=
  (show Calls Tryd.prog 14 #[fileV x A c, fileV x B d] W _ from rsame_file _ x x A c B d W (Nat.le_refl _) hx hA hc hB hd).mono (by
    rintro e w' ⟨rfl, hb⟩
    exact ⟨by rw [sameT_self], hb⟩)
end Go.Proofs.YthlcjjhfkldmhaaDoor.G
end
section
namespace Go.Proofs.YthlcjjhfkldmhaaDoor.G
open Go.RowKit Go.Lib Go.Proofs.YthlcjjhfkldmhaaDoorW.PrintWords Go.Proofs.YthlcjjhfkldmhaaDoorW.PrintLast
set_option linter.unusedVariables false

/-- A call: its kind, its path, the other path, the error that it answered. -/
structure Call where
  kind : Int
  path : List ByteArray
  dest : List ByteArray
  why : Int
/-- A request: its paths and data. -/
structure Req where
  p : List ByteArray
  dest : List ByteArray
  data : ByteArray
/-- What a call answers: the kind and the size (Lstat), the data (Read). -/
structure Told where
  kind : Int
  size : Int
  data : ByteArray
def told0 (d : ByteArray) : Told := ⟨0, 0, d⟩
def textF (d : ByteArray) : File := ⟨⟨#[]⟩, 2, d, []⟩
/-- put has a text stand at a real path. -/
def putV (t : File) (p : List ByteArray) (s : File) : File × Int := if (putA t p s).2 = 0 then putA t p s else (t, (putA t p s).2)
def lstatR (t : File) (x : Req) : File × Told × Int :=
  let r := walkR t x.p false
  if r.2.2.2 = 0 then (if r.2.2.1 = true then (t, ⟨r.2.1.kind, r.2.1.data.size, x.data⟩, 0) else (t, told0 x.data, 31)) else (t, told0 x.data, r.2.2.2)
def readV (t : File) (x : Req) : File × Told × Int :=
  let r := walkR t x.p true
  if r.2.2.2 = 0 then (if r.2.2.1 = true then (if r.2.1.kind = 1 then (t, told0 x.data, 40) else (t, told0 r.2.1.data, 0)) else (t, told0 x.data, 31)) else (t, told0 x.data, r.2.2.2)
def createR (t : File) (x : Req) : File × Told × Int :=
  let r := walkR t x.p true
  if r.2.2.2 = 0 then (if r.2.2.1 = true ∧ r.2.1.kind = 1 then (t, told0 x.data, 40) else ((putV t r.1 (textF ⟨#[]⟩)).1, told0 x.data, (putV t r.1 (textF ⟨#[]⟩)).2)) else (t, told0 x.data, r.2.2.2)
def appendR (t : File) (x : Req) : File × Told × Int :=
  let r := walkR t x.p true
  if r.2.2.2 = 0 then (if r.2.2.1 = true then (if r.2.1.kind = 1 then (t, told0 x.data, 40) else ((putV t r.1 (textF (r.2.1.data ++ x.data))).1, told0 x.data, (putV t r.1 (textF (r.2.1.data ++ x.data))).2)) else (t, told0 x.data, 31)) else (t, told0 x.data, r.2.2.2)
def renameR (t : File) (x : Req) : File × Told × Int :=
  let r := walkR t x.p false
  if r.2.2.2 = 0 then (if r.2.2.1 = true then (if r.2.1.kind = 1 then (t, told0 x.data, 40) else
      (let q := walkR t x.dest false
       if q.2.2.2 = 0 then (if q.2.2.1 = true ∧ q.2.1.kind = 1 then (t, told0 x.data, 40) else
          (if r.1 = q.1 then (t, told0 x.data, 0) else
            (let d := dropA t r.1
             if d.2 = 0 then (let u := putA d.1 q.1 r.2.1
               if u.2 = 0 then (u.1, told0 x.data, 0) else (t, told0 x.data, u.2)) else (t, told0 x.data, d.2))))
       else (t, told0 x.data, q.2.2.2)))
    else (t, told0 x.data, 31)) else (t, told0 x.data, r.2.2.2)
def opR (kind : Int) : File → Req → File × Told × Int :=
  if kind = 1 then lstatR else if kind = 2 then readV else if kind = 3 then createR else if kind = 4 then appendR else renameR
/-- A file system: its tree, its trace, the calls that fail. -/
structure FsV where
  tree : File
  trace : List Call
  faults : List Int
def callV (f : FsV) (kind : Int) (x : Req) : FsV × Told × Int :=
  if P.rightB x.p = true ∧ P.rightB x.dest = true then
    (let r := if (f.trace.length : Int) ∈ f.faults then (f.tree, told0 x.data, 42) else opR kind f.tree x
     ({ f with tree := r.1, trace := f.trace ++ [⟨kind, x.p, if kind = 5 then x.dest else [], r.2.2⟩] }, r.2.1, r.2.2))
  else (f, told0 x.data, 20)
end Go.Proofs.YthlcjjhfkldmhaaDoor.G
end
end
