/- The law TreesChecks, walked. -/
import Derived.Test.YtdnhjnlhmfajnaaDoorTLives
import Derived.Test.YtdnhjnlhmfajnaaDoorTKept
import Derived.Test.YtdnhjnlhmfajnaaDoorTPList
namespace Go.Proofs.YtdnhjnlhmfajnaaDoor.G
open Go.RowKit Go.Lib Go.Proofs.YtdnhjnlhmfajnaaDoorW.PrintWords Go.Proofs.YtdnhjnlhmfajnaaDoorW.PrintLast
set_option linter.unusedVariables false
set_option linter.unusedSimpArgs false

theorem kept_bound (f : File) : ∀ x ∈ (if rightT f then keptL [] f else []), x.1.length ≤ f.bulk := by
  intro x hx
  split at hx
  · obtain ⟨y, hy, rfl⟩ := List.mem_map.1 hx
    have := (preF_bound f [] y hy).2
    have := bulk_eq f
    simp only [keptE, List.length_nil] at *
    omega
  · cases hx
theorem kept_count (f : File) : (if rightT f then keptL [] f else []).length ≤ f.bulk := by
  split
  · rw [keptL, List.length_map]
    have := preF_count f []
    have := bulk_eq f
    omega
  · exact Nat.zero_le _
theorem wrongL_len {rec : File → List ByteArray → Option (List ByteArray)} {n : Nat} (hrec : ∀ x q b, rec x q = some b → b.length ≤ q.length + n) (p : List ByteArray) : ∀ (l : List File) (prev : Option ByteArray) b, wrongL rec p prev l = some b → b.length ≤ p.length + 1 + n
  | [], prev, b, h => by cases h
  | x :: l, prev, b, h => by
    unfold wrongL at h
    split at h
    · injection h with h
      subst h
      simp only [List.length_append, List.length_cons, List.length_nil]
      omega
    · split at h
      · rename_i b' hb
        injection h with h
        subst h
        have := hrec _ _ _ hb
        simp only [List.length_append, List.length_cons, List.length_nil] at this
        omega
      · exact wrongL_len hrec p l _ b h
theorem wrongN_len : ∀ (n : Nat) (f : File) (p b : List ByteArray), wrongN n f p = some b → b.length ≤ p.length + n
  | 0, f, p, b, h => by cases h
  | n + 1, f, p, b, h => by
    have := wrongL_len (rec := wrongN n) (n := n) (fun x q b h => wrongN_len n x q b h) p f.files none b h
    omega
theorem check_len (f : File) : (checkR f).2.length ≤ f.bulk := by
  unfold checkR
  split
  · cases h : wrongN f.bulk f [] with
    | none => exact Nat.zero_le _
    | some b =>
      have := wrongN_len _ _ _ _ h
      simpa [checkO] using this
  · exact Nat.zero_le _

set_option maxHeartbeats 8000000 in
set_option maxRecDepth 100000 in
theorem lchecks_calls (t : File) (A : Option Addr) (c : Nat) (u : File) (B : Option Addr) (d : Nat) (w : World) (hr : FileK.C w A t.files.length t.files) (hc : t.files.length ≤ c) (hb1 : t.bulk ≤ 1048576) (hs : FileK.C w B u.files.length u.files) (hd : u.files.length ≤ d) (hb2 : u.bulk ≤ 1048576) (hG : Tab w) (hM : Maxed w) :
    Calls Tryd.prog 4 #[fileV t A c, fileV u B d] w fun e w' => e = .returned (.bool true) ∧ Below w.heap.size w w' := by
  have hpl : (checkR t).2.length ≤ 8796093022208 := by have := check_len t; omega
  have HG := Lib.hid hG
  have HM := Lib.hid hM
  have HR := Lib.hid hr
  have HS := Lib.hid hs
  have HKB := Lib.hid (kept_bound t)
  have HKC := Lib.hid (kept_count t)
  have HB1 := Lib.hid hb1
  have HB2 := Lib.hid hb2
  have hbx := ((Below.refl w.heap.size w).alloc (Nat.le_refl _) (.cells #[.string t.name, .int .u8 t.kind, .string t.data, .slice A t.files.length c] 25)).alloc (by simp) (.cells #[.string u.name, .int .u8 u.kind, .string u.data, .slice B u.files.length d] 25)
  have hbb := two_boxes w #[.string t.name, .int .u8 t.kind, .string t.data, .slice A t.files.length c] #[.string u.name, .int .u8 u.kind, .string u.data, .slice B u.files.length d] 25 25
  have hzx : w.heap.size + 1 < ((w.alloc (.cells #[.string t.name, .int .u8 t.kind, .string t.data, .slice A t.files.length c] 25)).alloc (.cells #[.string u.name, .int .u8 u.kind, .string u.data, .slice B u.files.length d] 25)).heap.size := by simp
  have y0 := cell_of (j := 0) hbb.1 rfl
  have y1 := cell_of (j := 1) hbb.1 rfl
  have y2 := cell_of (j := 2) hbb.1 rfl
  have y3 := cell_of (j := 3) hbb.1 rfl
  have HCP1 : Hid (∀ W, Below w.heap.size w W → Calls Tryd.prog 12 #[.agg #[.string t.name, .int .u8 t.kind, .string t.data, .slice A t.files.length c]] W fun e w' => ∃ A1 c1, e = .returned (.agg #[.string t.name, .int .u8 t.kind, .string t.data, .slice A1 t.files.length c1]) ∧ t.files.length ≤ c1 ∧ FileK.C w' A1 t.files.length t.files ∧ Below W.heap.size W w') := Lib.hid fun W h =>
    (show Calls Tryd.prog 12 #[fileV t A c] W _ from rcopy_file _ t A c W (Nat.le_refl _) (by omega) (Kd.C_below HR.out h) hc).mono (by
      rintro e w' ⟨v, rfl, hR, hb⟩
      obtain ⟨A1, c1, rfl, hc1, hC⟩ := Kd.R_reads hR
      exact ⟨A1, c1, rfl, hc1, hC, hb⟩)
  have HRCK : Hid (∀ W, Below w.heap.size w W → Calls Tryd.prog 13 #[.agg #[.string t.name, .int .u8 t.kind, .string t.data, .slice A t.files.length c]] W fun e w' => ∃ A4 c4, e = .returned (.tuple #[.int .i64 (checkR t).1, .slice A4 (checkR t).2.length c4]) ∧ (checkR t).2.length ≤ c4 ∧ Kd.C Kd.string w' A4 (checkR t).2.length (checkR t).2 ∧ Below W.heap.size W w') := Lib.hid fun W h =>
    (show Calls Tryd.prog 13 #[fileV t A c] W _ from rcheck_calls t A c W (by omega) (Kd.C_below HR.out h) hc).mono (by
      rintro e w' ⟨v, rfl, hR, hb⟩
      obtain ⟨A1, c1, rfl, hc1, hC⟩ := Kd.R_reads hR
      exact ⟨A1, c1, rfl, hc1, hC, hb⟩)
  have HRLS : Hid (∀ W, Below w.heap.size w W → Calls Tryd.prog 15 #[.agg #[.string t.name, .int .u8 t.kind, .string t.data, .slice A t.files.length c]] W fun e w' => ∃ A4 c4, e = .returned (.tuple #[.slice A4 (if rightT t then keptL [] t else []).length c4, .int .i64 (if rightT t then 0 else 30)]) ∧ (if rightT t then keptL [] t else []).length ≤ c4 ∧ KeptK.C w' A4 (if rightT t then keptL [] t else []).length (if rightT t then keptL [] t else []) ∧ Below W.heap.size W w') := Lib.hid fun W h =>
    (show Calls Tryd.prog 15 #[fileV t A c] W _ from rlist_calls t A c W (by omega) (Kd.C_below HR.out h) hc).mono (by
      rintro e w' ⟨v, rfl, hR, hb⟩
      obtain ⟨A1, c1, rfl, hc1, hC⟩ := Kd.R_reads hR
      exact ⟨A1, c1, rfl, hc1, hC, hb⟩)
  have HCK : Hid (∀ A1 c1 W, t.files.length ≤ c1 → FileK.C W A1 t.files.length t.files → Calls Tryd.prog 9 #[.agg #[.string t.name, .int .u8 t.kind, .string t.data, .slice A1 t.files.length c1]] W fun e w' => ∃ A4 c4, e = .returned (.tuple #[.int .i64 (checkR t).1, .slice A4 (checkR t).2.length c4]) ∧ (checkR t).2.length ≤ c4 ∧ Kd.C Kd.string w' A4 (checkR t).2.length (checkR t).2 ∧ Below W.heap.size W w') := Lib.hid fun A1 c1 W h1 h =>
    (show Calls Tryd.prog 9 #[fileV t A1 c1] W _ from check_calls t A1 c1 W (by omega) h h1).mono (by
      rintro e w' ⟨v, rfl, hR, hb⟩
      obtain ⟨A1, c1, rfl, hc1, hC⟩ := Kd.R_reads hR
      exact ⟨A1, c1, rfl, hc1, hC, hb⟩)
  have HLS : Hid (∀ A1 c1 W, t.files.length ≤ c1 → FileK.C W A1 t.files.length t.files → Calls Tryd.prog 14 #[.agg #[.string t.name, .int .u8 t.kind, .string t.data, .slice A1 t.files.length c1]] W fun e w' => ∃ A4 c4, e = .returned (.tuple #[.slice A4 (if rightT t then keptL [] t else []).length c4, .int .i64 (if rightT t then 0 else 30)]) ∧ (if rightT t then keptL [] t else []).length ≤ c4 ∧ KeptK.C w' A4 (if rightT t then keptL [] t else []).length (if rightT t then keptL [] t else []) ∧ Below W.heap.size W w') := Lib.hid fun A1 c1 W h1 h =>
    (show Calls Tryd.prog 14 #[fileV t A1 c1] W _ from list_calls t A1 c1 W (by omega) h h1).mono (by
      rintro e w' ⟨v, rfl, hR, hb⟩
      obtain ⟨A1, c1, rfl, hc1, hC⟩ := Kd.R_reads hR
      exact ⟨A1, c1, rfl, hc1, hC, hb⟩)
  clear hr hs hb1 hb2
  generalize (if rightT t then keptL [] t else []) = kl at *
  generalize (if rightT t then (0 : Int) else 30) = kr at *
  obtain ⟨⟨ck, cp⟩, hckr⟩ : ∃ x, checkR t = x := ⟨_, rfl⟩
  rw [hckr] at HRCK HCK hpl
  simp only at HRCK HCK hpl
  clear hckr
  go_enter Tryd.func4, Tryd.ntmps4
  unfold fileV
  go_wp2_with fail
  generalize ((w.alloc (.cells #[.string t.name, .int .u8 t.kind, .string t.data, .slice A t.files.length c] 25)).alloc (.cells #[.string u.name, .int .u8 u.kind, .string u.data, .slice B u.files.length d] 25)) = W1 at *
  refine (HCP1.out _ hbx).mono ?_
  rintro e w1 ⟨A1, c1, rfl, hc1, hC1, hw1⟩
  have hbw1 := bstep hbx hbx.size hw1
  have h5 := below_alloc (Below.refl w1.heap.size w1) (.cells #[.string t.name, .int .u8 t.kind, .string t.data, .slice A1 t.files.length c1] 25)
  have hn5 := blk_new w1 (.cells #[.string t.name, .int .u8 t.kind, .string t.data, .slice A1 t.files.length c1] 25)
  have hz5 : w1.heap.size < (w1.alloc (.cells #[.string t.name, .int .u8 t.kind, .string t.data, .slice A1 t.files.length c1] 25)).heap.size := by simp
  have hs1 := hw1.size
  have HC1 := Lib.hid hC1
  clear hC1 y0 y1 y2 y3
  go_wp2_with fail
  generalize w1.alloc (.cells #[.string t.name, .int .u8 t.kind, .string t.data, .slice A1 t.files.length c1] 25) = W2 at *
  have hs2 := h5.size
  refine (HCK.out A1 c1 W2 hc1 (Kd.C_below HC1.out h5)).mono ?_
  rintro e w3 ⟨A3, c3, rfl, hc3, hC3, hw3⟩
  have HC3 := Lib.hid hC3
  have hs3 := hw3.size
  have k3 : Below W1.heap.size W1 w3 := (hw1.trans (h5.mono hw1.size)).trans (hw3.mono (by omega))
  have y0 := cell_of (j := 0) ((k3.block w.heap.size (by omega)).trans hbb.1) rfl
  have y1 := cell_of (j := 1) ((k3.block w.heap.size (by omega)).trans hbb.1) rfl
  have y2 := cell_of (j := 2) ((k3.block w.heap.size (by omega)).trans hbb.1) rfl
  have y3 := cell_of (j := 3) ((k3.block w.heap.size (by omega)).trans hbb.1) rfl
  clear hC3
  go_wp2_with fail
  refine (HRCK.out w3 (bstep hbx hbx.size k3)).mono ?_
  rintro e w4 ⟨A4, c4, rfl, hc4, hC4, hw4⟩
  have HC4 := Lib.hid hC4
  have hs4 := hw4.size
  have j4 : Below W2.heap.size W2 w4 := hw3.trans (hw4.mono hs3)
  clear hC4 y0 y1 y2 y3
  have y0 := cell_of (j := 0) ((j4.block w1.heap.size hz5).trans hn5) rfl
  have y1 := cell_of (j := 1) ((j4.block w1.heap.size hz5).trans hn5) rfl
  have y2 := cell_of (j := 2) ((j4.block w1.heap.size hz5).trans hn5) rfl
  have y3 := cell_of (j := 3) ((j4.block w1.heap.size hz5).trans hn5) rfl
  go_wp2_with fail
  refine (HLS.out A1 c1 w4 hc1 (Kd.C_below HC1.out (h5.trans (j4.mono hs2)))).mono ?_
  rintro e w5 ⟨A5, c5, rfl, hc5, hC5, hw5⟩
  have HC5 := Lib.hid hC5
  have hs5 := hw5.size
  have k5 : Below W1.heap.size W1 w5 := (k3.trans (hw4.mono (by omega))).trans (hw5.mono (by omega))
  clear hC5 y0 y1 y2 y3
  have y0 := cell_of (j := 0) ((k5.block w.heap.size (by omega)).trans hbb.1) rfl
  have y1 := cell_of (j := 1) ((k5.block w.heap.size (by omega)).trans hbb.1) rfl
  have y2 := cell_of (j := 2) ((k5.block w.heap.size (by omega)).trans hbb.1) rfl
  have y3 := cell_of (j := 3) ((k5.block w.heap.size (by omega)).trans hbb.1) rfl
  go_wp2_with fail
  refine (HRLS.out w5 (bstep hbx hbx.size k5)).mono ?_
  rintro e w6 ⟨A6, c6, rfl, hc6, hC6, hw6⟩
  have hs6 := hw6.size
  have k6 : Below W1.heap.size W1 w6 := k5.trans (hw6.mono (by omega))
  have hbw6 := bstep hbx hbx.size k6
  have hb26 : Below w1.heap.size w1 w6 := ((h5.trans (j4.mono hs2)).trans (hw5.mono (by omega))).trans (hw6.mono (by omega))
  have HX : Hid (∀ W, Below w6.heap.size w6 W → W.heap[w.heap.size]? = some (.cells #[.string t.name, .int .u8 t.kind, .string t.data, .slice A t.files.length c] 25 (0, 0)) ∧ W.heap[w.heap.size + 1]? = some (.cells #[.string u.name, .int .u8 u.kind, .string u.data, .slice B u.files.length d] 25 (0, 0)) ∧ W.heap[w1.heap.size]? = some (.cells #[.string t.name, .int .u8 t.kind, .string t.data, .slice A1 t.files.length c1] 25 (0, 0))) := Lib.hid fun W h => by
    have h1 := k6.trans (h.mono k6.size)
    have h2 := (j4.trans (hw5.mono (by omega))).trans (hw6.mono (by omega))
    have h3 := h2.trans (h.mono (by omega))
    exact ⟨(h1.block _ (by omega)).trans hbb.1, (h1.block _ (by omega)).trans hbb.2, (h3.block _ hz5).trans hn5⟩
  have HLV : Hid (∀ W, Below w6.heap.size w6 W → Calls Tryd.prog 7 #[] W fun e w' => e = .returned (.bool true) ∧ Below w6.heap.size w6 w') := Lib.hid fun W h =>
    (lives_calls W (Tab_b HG.out (bstep hbw6 hbw6.size h)) (Maxed_below HM.out (bstep hbw6 hbw6.size h))).mono fun e w' ⟨h1, h2⟩ => ⟨h1, bstep h h.size h2⟩
  have HPA : Hid (∀ W, Below w6.heap.size w6 W → Calls Tryd.prog 16 #[.slice A3 cp.length c3, .slice A4 cp.length c4] W fun e w' => e = .returned (.bool true) ∧ Below w6.heap.size w6 w') := Lib.hid fun W h => by
    have e3 : Below w3.heap.size w3 W := ((hw4.trans (hw5.mono (by omega))).trans (hw6.mono (by omega))).trans (h.mono (by omega))
    have e4 : Below w4.heap.size w4 W := (hw5.trans (hw6.mono (by omega))).trans (h.mono (by omega))
    exact (rpaths_calls A3 c3 cp A4 c4 cp W (Kd.C_below HC3.out e3) hc3 (Kd.C_below HC4.out e4) hc4 hpl).mono (by
      rintro e w' ⟨rfl, n, rfl⟩
      exact ⟨by rw [decide_eq_true rfl], bdrewN h n⟩)
  have HKE : Hid (∀ W, Below w6.heap.size w6 W → Calls Tryd.prog 17 #[.slice A5 kl.length c5, .slice A6 kl.length c6] W fun e w' => e = .returned (.bool true) ∧ Below w6.heap.size w6 w') := Lib.hid fun W h =>
    (kept_calls A5 c5 kl A6 c6 W (Kd.C_below HC5.out (hw6.trans (h.mono hs6))) hc5 (Kd.C_below hC6 h) hc6 (by have := HKC.out; have := HB1.out; omega) (fun x hx => by have := HKB.out x hx; have := HB1.out; omega)).mono fun e w' ⟨h1, h2⟩ => ⟨h1, bstep h h.size h2⟩
  have HCW : Hid (∀ W, Below w6.heap.size w6 W → FileK.C W A1 t.files.length t.files ∧ FileK.C W A t.files.length t.files ∧ FileK.C W B u.files.length u.files) := Lib.hid fun W h =>
    ⟨Kd.C_below HC1.out (hb26.trans (h.mono hb26.size)), Kd.C_below HR.out (bstep hbw6 hbw6.size h), Kd.C_below HS.out (bstep hbw6 hbw6.size h)⟩
  have HSU : Hid (∀ W, Below w6.heap.size w6 W → Calls Tryd.prog 18 #[.agg #[.string t.name, .int .u8 t.kind, .string t.data, .slice A1 t.files.length c1], .agg #[.string u.name, .int .u8 u.kind, .string u.data, .slice B u.files.length d]] W fun e w' => e = .returned (.bool (sameT t u)) ∧ Below w6.heap.size w6 w') := Lib.hid fun W h =>
    (show Calls Tryd.prog 18 #[fileV t A1 c1, fileV u B d] W _ from same_file _ t u A1 c1 B d W (Nat.le_refl _) (by have := HB1.out; omega) (HCW.out W h).1 hc1 (HCW.out W h).2.2 hd).mono fun e w' ⟨h1, h2⟩ => ⟨h1, bstep h h.size h2⟩
  have HRU : Hid (∀ W, Below w6.heap.size w6 W → Calls Tryd.prog 11 #[.agg #[.string t.name, .int .u8 t.kind, .string t.data, .slice A t.files.length c], .agg #[.string u.name, .int .u8 u.kind, .string u.data, .slice B u.files.length d]] W fun e w' => e = .returned (.bool (sameT t u)) ∧ Below w6.heap.size w6 w') := Lib.hid fun W h =>
    (show Calls Tryd.prog 11 #[fileV t A c, fileV u B d] W _ from rsame_file _ t u A c B d W (Nat.le_refl _) (by have := HB1.out; omega) (HCW.out W h).2.1 hc (HCW.out W h).2.2 hd).mono fun e w' ⟨h1, h2⟩ => ⟨h1, bstep h h.size h2⟩
  have HSS : Hid (∀ W, Below w6.heap.size w6 W → Calls Tryd.prog 18 #[.agg #[.string t.name, .int .u8 t.kind, .string t.data, .slice A t.files.length c], .agg #[.string t.name, .int .u8 t.kind, .string t.data, .slice A t.files.length c]] W fun e w' => e = .returned (.bool true) ∧ Below w6.heap.size w6 w') := Lib.hid fun W h =>
    (show Calls Tryd.prog 18 #[fileV t A c, fileV t A c] W _ from same_file _ t t A c A c W (Nat.le_refl _) (by have := HB1.out; omega) (HCW.out W h).2.1 hc (HCW.out W h).2.1 hc).mono fun e w' ⟨h1, h2⟩ => ⟨by rw [h1, sameT_self], bstep h h.size h2⟩
  have HCT : Hid (∀ W, Below w6.heap.size w6 W → Calls Tryd.prog 11 #[.agg #[.string t.name, .int .u8 t.kind, .string t.data, .slice A1 t.files.length c1], .agg #[.string t.name, .int .u8 t.kind, .string t.data, .slice A t.files.length c]] W fun e w' => e = .returned (.bool true) ∧ Below w6.heap.size w6 w') := Lib.hid fun W h =>
    (show Calls Tryd.prog 11 #[fileV t A1 c1, fileV t A c] W _ from rsame_file _ t t A1 c1 A c W (Nat.le_refl _) (by have := HB1.out; omega) (HCW.out W h).1 hc1 (HCW.out W h).2.1 hc).mono fun e w' ⟨h1, h2⟩ => ⟨by rw [h1, sameT_self], bstep h h.size h2⟩
  have HCP : Hid (∀ W, Below w6.heap.size w6 W → Calls Tryd.prog 19 #[.agg #[.string t.name, .int .u8 t.kind, .string t.data, .slice A1 t.files.length c1]] W fun e w' => ∃ A9 c9, e = .returned (.agg #[.string t.name, .int .u8 t.kind, .string t.data, .slice A9 t.files.length c9]) ∧ t.files.length ≤ c9 ∧ FileK.C w' A9 t.files.length t.files ∧ Below w6.heap.size w6 w') := Lib.hid fun W h =>
    (show Calls Tryd.prog 19 #[fileV t A1 c1] W _ from copy_file _ t A1 c1 W (Nat.le_refl _) (by have := HB1.out; omega) (HCW.out W h).1 hc1).mono (by
      rintro e w' ⟨v, rfl, hR, hb⟩
      obtain ⟨A1, c1, rfl, hc1, hC⟩ := Kd.R_reads hR
      exact ⟨A1, c1, rfl, hc1, hC, bstep h h.size hb⟩)
  have HXT : Hid (∀ A9 c9 V W, Below w6.heap.size w6 V → t.files.length ≤ c9 → FileK.C V A9 t.files.length t.files → Below V.heap.size V W → Below w6.heap.size w6 W → Calls Tryd.prog 11 #[.agg #[.string t.name, .int .u8 t.kind, .string t.data, .slice A9 t.files.length c9], .agg #[.string t.name, .int .u8 t.kind, .string t.data, .slice A t.files.length c]] W fun e w' => e = .returned (.bool true) ∧ Below w6.heap.size w6 w') := Lib.hid fun A9 c9 V W _ h9 hV hVW h =>
    (show Calls Tryd.prog 11 #[fileV t A9 c9, fileV t A c] W _ from rsame_file _ t t A9 c9 A c W (Nat.le_refl _) (by have := HB1.out; omega) (Kd.C_below hV hVW) h9 (HCW.out W h).2.1 hc).mono fun e w' ⟨h1, h2⟩ => ⟨by rw [h1, sameT_self], bstep h h.size h2⟩
  generalize sameT t u = sb at *
  generalize kl.length = nl at *
  generalize cp.length = np at *
  have z1 : (ck == ck) = true := by simp
  have z2 : (kr == kr) = true := by simp
  have z3 : (sb == sb) = true := by simp
  have g0 := bdrew (Below.refl w6.heap.size w6)
  clear hC6 y0 y1 y2 y3 HCK HLS HRCK HRLS HCP1 HC1 HC3 HC4 HC5 HKB HKC
  go_wp2_with fail
  refine start_ (n := 47) (S := fun w' => w'.heap[w.heap.size]? = some (.cells #[.string t.name, .int .u8 t.kind, .string t.data, .slice A t.files.length c] 25 (0, 0)) ∧ w'.heap[w.heap.size + 1]? = some (.cells #[.string u.name, .int .u8 u.kind, .string u.data, .slice B u.files.length d] 25 (0, 0)) ∧ w'.heap[w1.heap.size]? = some (.cells #[.string t.name, .int .u8 t.kind, .string t.data, .slice A1 t.files.length c1] 25 (0, 0))) (ds := []) (bm 47 0) (by kernel_rfl) rfl rfl (HX.out _ g0) (fun hHeld => ?_)
  refine one_ (i := 0) (N := some 36) (bm 47 1) rfl rfl (by kernel_rfl) (by decide) (fun K hK => ?_)
  refine goes_ Tryd.func7 (by kernel_rfl) rfl #[] (by rfl) rfl rfl (by simp only [List.map_toArray, List.map_cons, List.map_nil]) ?_
  refine (HLV.out _ g0).mono ?_
  rintro e x1 ⟨rfl, g1⟩
  refine ⟨_, rfl, ?_⟩
  refine hK.out _ _ (HX.out _ g1) (fun hHeld => ?_)
  refine norm_ (a' := ?_) ?_ ?_
  rotate_left
  · show Act.put _ (some 36) _ = _
    simp only [Act.put, List.setIfInBounds_toArray, List.set_cons_zero, List.set_cons_succ, i64_w, i32_w]
    rfl
  refine pure_ (i := 1) (N := some 37) (v := ?_) (a' := ?_) (bm 47 3) rfl rfl (by kernel_rfl) (fun _ _ _ h => h) (Or.inl ⟨by rfl, ?_⟩) ?_ ?_
  rotate_left
  · intro w'
    go_simp
    with_reducible rfl
  rotate_left
  · simp only [Act.put, List.setIfInBounds_toArray, List.set_cons_zero, List.set_cons_succ, i64_w, i32_w]
    rfl
  refine pure_ (i := 2) (N := some 38) (v := ?_) (a' := ?_) (bm 47 7) rfl rfl (by kernel_rfl) (fun _ _ _ h => h) (Or.inl ⟨by rfl, ?_⟩) ?_ ?_
  rotate_left
  · intro w'
    go_simp
    with_reducible rfl
  rotate_left
  · simp only [Act.put, List.setIfInBounds_toArray, List.set_cons_zero, List.set_cons_succ, i64_w, i32_w]
    rfl
  refine pure_ (i := 3) (N := some 39) (v := ?_) (a' := ?_) (bm 47 15) rfl rfl (by kernel_rfl) (fun _ _ _ h => h) (Or.inl ⟨by rfl, ?_⟩) ?_ ?_
  rotate_left
  · intro w'
    go_simp
    with_reducible rfl
  rotate_left
  · simp only [Act.put, List.setIfInBounds_toArray, List.set_cons_zero, List.set_cons_succ, i64_w, i32_w]
    rfl
  refine pure_ (i := 4) (N := some 40) (v := ?_) (a' := ?_) (bm 47 31) rfl rfl (by kernel_rfl) (fun _ _ _ h => h) (Or.inl ⟨by rfl, ?_⟩) ?_ ?_
  rotate_left
  · intro w'
    go_simp
    with_reducible rfl
  rotate_left
  · simp only [Act.put, List.setIfInBounds_toArray, List.set_cons_zero, List.set_cons_succ, i64_w, i32_w]
    rfl
  refine pure_ (i := 5) (N := some 41) (v := ?_) (a' := ?_) (bm 47 63) rfl rfl (by kernel_rfl) (fun _ _ _ h => h) (Or.inl ⟨by rfl, ?_⟩) ?_ ?_
  rotate_left
  · intro w'
    go_simp
    with_reducible rfl
  rotate_left
  · simp only [Act.put, List.setIfInBounds_toArray, List.set_cons_zero, List.set_cons_succ, i64_w, i32_w]
    rfl
  refine pure_ (i := 6) (N := some 42) (v := ?_) (a' := ?_) (bm 47 127) rfl rfl (by kernel_rfl) (fun _ _ _ h => h) (Or.inl ⟨by rfl, ?_⟩) ?_ ?_
  rotate_left
  · intro w'
    go_simp
    with_reducible rfl
  rotate_left
  · simp only [Act.put, List.setIfInBounds_toArray, List.set_cons_zero, List.set_cons_succ, i64_w, i32_w]
    rfl
  refine pure_ (i := 7) (N := some 43) (v := ?_) (a' := ?_) (bm 47 255) rfl rfl (by kernel_rfl) (fun _ _ _ h => h) (Or.inl ⟨by rfl, ?_⟩) ?_ ?_
  rotate_left
  · intro w'
    go_simp
    with_reducible rfl
  rotate_left
  · simp only [Act.put, List.setIfInBounds_toArray, List.set_cons_zero, List.set_cons_succ, i64_w, i32_w]
    rfl
  refine pure_ (i := 8) (N := some 44) (v := ?_) (a' := ?_) (bm 47 511) rfl rfl (by kernel_rfl) (fun _ _ _ h => h) (Or.inl ⟨by rfl, ?_⟩) ?_ ?_
  rotate_left
  · intro w'
    go_simp
    with_reducible rfl
  rotate_left
  · simp only [Act.put, List.setIfInBounds_toArray, List.set_cons_zero, List.set_cons_succ, i64_w, i32_w]
    rfl
  refine one_ (i := 9) (N := some 45) (bm 47 1023) rfl rfl (by kernel_rfl) (by decide) (fun K hK => ?_)
  refine goes_ Tryd.func16 (by kernel_rfl) rfl #[.slice A3 np c3, .slice A4 np c4] (by rfl) rfl rfl (by simp only [List.map_toArray, List.map_cons, List.map_nil]; rfl) ?_
  refine (HPA.out _ g1).mono ?_
  rintro e x2 ⟨rfl, g2⟩
  refine ⟨_, rfl, ?_⟩
  refine hK.out _ _ (HX.out _ g2) (fun hHeld => ?_)
  refine norm_ (a' := ?_) ?_ ?_
  rotate_left
  · show Act.put _ (some 45) _ = _
    simp only [Act.put, List.setIfInBounds_toArray, List.set_cons_zero, List.set_cons_succ, i64_w, i32_w]
    rfl
  refine pure_ (i := 10) (N := some 46) (v := ?_) (a' := ?_) (bm 47 2047) rfl rfl (by kernel_rfl) (fun _ _ _ h => h) (Or.inl ⟨by rfl, ?_⟩) ?_ ?_
  rotate_left
  · intro w'
    go_simp
    with_reducible rfl
  rotate_left
  · simp only [Act.put, List.setIfInBounds_toArray, List.set_cons_zero, List.set_cons_succ, i64_w, i32_w]
    rfl
  refine pure_ (i := 11) (N := some 47) (v := ?_) (a' := ?_) (bm 47 4095) rfl rfl (by kernel_rfl) (fun _ _ _ h => h) (Or.inl ⟨by rfl, ?_⟩) ?_ ?_
  rotate_left
  · intro w'
    go_simp
    with_reducible rfl
  rotate_left
  · simp only [Act.put, List.setIfInBounds_toArray, List.set_cons_zero, List.set_cons_succ, i64_w, i32_w]
    rfl
  refine pure_ (i := 12) (N := some 48) (v := ?_) (a' := ?_) (bm 47 8191) rfl rfl (by kernel_rfl) (fun _ _ _ h => h) (Or.inl ⟨by rfl, ?_⟩) ?_ ?_
  rotate_left
  · intro w'
    go_simp
    with_reducible rfl
  rotate_left
  · simp only [Act.put, List.setIfInBounds_toArray, List.set_cons_zero, List.set_cons_succ, i64_w, i32_w]
    rfl
  refine pure_ (i := 13) (N := some 49) (v := ?_) (a' := ?_) (bm 47 16383) rfl rfl (by kernel_rfl) (fun _ _ _ h => h) (Or.inl ⟨by rfl, ?_⟩) ?_ ?_
  rotate_left
  · intro w'
    go_simp
    with_reducible rfl
  rotate_left
  · simp only [Act.put, List.setIfInBounds_toArray, List.set_cons_zero, List.set_cons_succ, i64_w, i32_w]
    rfl
  refine one_ (i := 14) (N := some 50) (bm 47 32767) rfl rfl (by kernel_rfl) (by decide) (fun K hK => ?_)
  refine goes_ Tryd.func17 (by kernel_rfl) rfl #[.slice A5 nl c5, .slice A6 nl c6] (by rfl) rfl rfl (by simp only [List.map_toArray, List.map_cons, List.map_nil]; rfl) ?_
  refine (HKE.out _ g2).mono ?_
  rintro e x3 ⟨rfl, g3⟩
  refine ⟨_, rfl, ?_⟩
  refine hK.out _ _ (HX.out _ g3) (fun hHeld => ?_)
  refine norm_ (a' := ?_) ?_ ?_
  rotate_left
  · show Act.put _ (some 50) _ = _
    simp only [Act.put, List.setIfInBounds_toArray, List.set_cons_zero, List.set_cons_succ, i64_w, i32_w]
    rfl
  refine pure_ (i := 15) (N := some 51) (v := ?_) (a' := ?_) (bm 47 65535) rfl rfl (by kernel_rfl) (fun _ _ _ h => h) (Or.inl ⟨by rfl, ?_⟩) ?_ ?_
  rotate_left
  · intro w'
    go_simp
    with_reducible rfl
  rotate_left
  · simp only [Act.put, List.setIfInBounds_toArray, List.set_cons_zero, List.set_cons_succ, i64_w, i32_w]
    rfl
  refine pure_ (i := 16) (N := some 52) (v := ?_) (a' := ?_) (bm 47 131071) rfl rfl (by kernel_rfl) (fun _ _ _ h => h) (Or.inl ⟨by rfl, ?_⟩) ?_ ?_
  rotate_left
  · intro w'
    go_simp
    with_reducible rfl
  rotate_left
  · simp only [Act.put, List.setIfInBounds_toArray, List.set_cons_zero, List.set_cons_succ, i64_w, i32_w]
    rfl
  refine pure_ (i := 17) (N := some 53) (v := ?_) (a' := ?_) (bm 47 262143) rfl rfl (by kernel_rfl) (fun _ _ _ h => h) (Or.inl ⟨by rfl, ?_⟩) ?_ ?_
  rotate_left
  · intro w'
    go_simp
    with_reducible rfl
  rotate_left
  · simp only [Act.put, List.setIfInBounds_toArray, List.set_cons_zero, List.set_cons_succ, i64_w, i32_w]
    rfl
  refine pure_ (i := 18) (N := some 54) (v := ?_) (a' := ?_) (bm 47 524287) rfl rfl (by kernel_rfl) (fun _ _ _ h => h) (Or.inl ⟨by rfl, ?_⟩) ?_ ?_
  rotate_left
  · intro w'
    go_simp
    with_reducible rfl
  rotate_left
  · simp only [Act.put, List.setIfInBounds_toArray, List.set_cons_zero, List.set_cons_succ, i64_w, i32_w]
    rfl
  refine pure_ (i := 19) (N := some 55) (v := ?_) (a' := ?_) (bm 47 1048575) rfl rfl (by kernel_rfl) (fun _ _ _ h => h) (Or.inl ⟨by rfl, ?_⟩) ?_ ?_
  rotate_left
  · intro w'
    go_simp
    with_reducible rfl
  rotate_left
  · simp only [Act.put, List.setIfInBounds_toArray, List.set_cons_zero, List.set_cons_succ, i64_w, i32_w]
    rfl
  refine pure_ (i := 20) (N := some 56) (v := ?_) (a' := ?_) (bm 47 2097151) rfl rfl (by kernel_rfl) (fun _ _ _ h => h) (Or.inl ⟨by rfl, ?_⟩) ?_ ?_
  rotate_left
  · intro w'
    go_simp
    with_reducible rfl
  rotate_left
  · simp only [Act.put, List.setIfInBounds_toArray, List.set_cons_zero, List.set_cons_succ, i64_w, i32_w]
    rfl
  refine pure_ (i := 21) (N := some 57) (v := ?_) (a' := ?_) (bm 47 4194303) rfl rfl (by kernel_rfl) (fun _ _ _ h => h) (Or.inl ⟨by rfl, ?_⟩) ?_ ?_
  rotate_left
  · intro w'
    go_simp
    with_reducible rfl
  rotate_left
  · simp only [Act.put, List.setIfInBounds_toArray, List.set_cons_zero, List.set_cons_succ, i64_w, i32_w]
    rfl
  refine take_ (i := 22) (N := some 58) (v := ?_) (a' := ?_) (bm 47 8388607) rfl rfl (by kernel_rfl) (fun _ _ _ h => h) (Or.inl ⟨by rfl, ?_⟩) hHeld ?_ ?_
  rotate_left
  · rintro w' ⟨s0, s1, s2⟩
    have q0 := cell_of (j := 0) s2 rfl
    have q1 := cell_of (j := 1) s2 rfl
    have q2 := cell_of (j := 2) s2 rfl
    have q3 := cell_of (j := 3) s2 rfl
    go_simp
    with_reducible rfl
  rotate_left
  · simp only [Act.put, List.setIfInBounds_toArray, List.set_cons_zero, List.set_cons_succ, i64_w, i32_w]
    rfl
  refine take_ (i := 23) (N := some 59) (v := ?_) (a' := ?_) (bm 47 16777215) rfl rfl (by kernel_rfl) (fun _ _ _ h => h) (Or.inl ⟨by rfl, ?_⟩) hHeld ?_ ?_
  rotate_left
  · rintro w' ⟨s0, s1, s2⟩
    have q0 := cell_of (j := 0) s1 rfl
    have q1 := cell_of (j := 1) s1 rfl
    have q2 := cell_of (j := 2) s1 rfl
    have q3 := cell_of (j := 3) s1 rfl
    go_simp
    with_reducible rfl
  rotate_left
  · simp only [Act.put, List.setIfInBounds_toArray, List.set_cons_zero, List.set_cons_succ, i64_w, i32_w]
    rfl
  refine take_ (i := 25) (N := some 61) (v := ?_) (a' := ?_) (bm 47 50331647) rfl rfl (by kernel_rfl) (fun _ _ _ h => h) (Or.inl ⟨by rfl, ?_⟩) hHeld ?_ ?_
  rotate_left
  · rintro w' ⟨s0, s1, s2⟩
    have q0 := cell_of (j := 0) s0 rfl
    have q1 := cell_of (j := 1) s0 rfl
    have q2 := cell_of (j := 2) s0 rfl
    have q3 := cell_of (j := 3) s0 rfl
    go_simp
    with_reducible rfl
  rotate_left
  · simp only [Act.put, List.setIfInBounds_toArray, List.set_cons_zero, List.set_cons_succ, i64_w, i32_w]
    rfl
  refine take_ (i := 26) (N := some 62) (v := ?_) (a' := ?_) (bm 47 117440511) rfl rfl (by kernel_rfl) (fun _ _ _ h => h) (Or.inl ⟨by rfl, ?_⟩) hHeld ?_ ?_
  rotate_left
  · rintro w' ⟨s0, s1, s2⟩
    have q0 := cell_of (j := 0) s1 rfl
    have q1 := cell_of (j := 1) s1 rfl
    have q2 := cell_of (j := 2) s1 rfl
    have q3 := cell_of (j := 3) s1 rfl
    go_simp
    with_reducible rfl
  rotate_left
  · simp only [Act.put, List.setIfInBounds_toArray, List.set_cons_zero, List.set_cons_succ, i64_w, i32_w]
    rfl
  refine one_ (i := 24) (N := some 60) (bm 47 134217727) rfl rfl (by kernel_rfl) (by decide) (fun K hK => ?_)
  refine goes_ Tryd.func18 (by kernel_rfl) rfl #[.agg #[.string t.name, .int .u8 t.kind, .string t.data, .slice A1 t.files.length c1], .agg #[.string u.name, .int .u8 u.kind, .string u.data, .slice B u.files.length d]] (by rfl) rfl rfl (by simp only [List.map_toArray, List.map_cons, List.map_nil]; rfl) ?_
  refine (HSU.out _ g3).mono ?_
  rintro e x4 ⟨rfl, g4⟩
  refine ⟨_, rfl, ?_⟩
  refine hK.out _ _ (HX.out _ g4) (fun hHeld => ?_)
  refine norm_ (a' := ?_) ?_ ?_
  rotate_left
  · show Act.put _ (some 60) _ = _
    simp only [Act.put, List.setIfInBounds_toArray, List.set_cons_zero, List.set_cons_succ, i64_w, i32_w]
    rfl
  refine one_ (i := 27) (N := some 63) (bm 47 268435455) rfl rfl (by kernel_rfl) (by decide) (fun K hK => ?_)
  refine goes_ Tryd.func11 (by kernel_rfl) rfl #[.agg #[.string t.name, .int .u8 t.kind, .string t.data, .slice A t.files.length c], .agg #[.string u.name, .int .u8 u.kind, .string u.data, .slice B u.files.length d]] (by rfl) rfl rfl (by simp only [List.map_toArray, List.map_cons, List.map_nil]; rfl) ?_
  refine (HRU.out _ g4).mono ?_
  rintro e x5 ⟨rfl, g5⟩
  refine ⟨_, rfl, ?_⟩
  refine hK.out _ _ (HX.out _ g5) (fun hHeld => ?_)
  refine norm_ (a' := ?_) ?_ ?_
  rotate_left
  · show Act.put _ (some 63) _ = _
    simp only [Act.put, List.setIfInBounds_toArray, List.set_cons_zero, List.set_cons_succ, i64_w, i32_w]
    rfl
  refine pure_ (i := 28) (N := some 64) (v := ?_) (a' := ?_) (bm 47 536870911) rfl rfl (by kernel_rfl) (fun _ _ _ h => h) (Or.inl ⟨by rfl, ?_⟩) ?_ ?_
  rotate_left
  · intro w'
    go_simp
    with_reducible rfl
  rotate_left
  · simp only [Act.put, List.setIfInBounds_toArray, List.set_cons_zero, List.set_cons_succ, i64_w, i32_w]
    rfl
  refine pure_ (i := 29) (N := some 65) (v := ?_) (a' := ?_) (bm 47 1073741823) rfl rfl (by kernel_rfl) (fun _ _ _ h => h) (Or.inl ⟨by rfl, ?_⟩) ?_ ?_
  rotate_left
  · intro w'
    go_simp
    with_reducible rfl
  rotate_left
  · simp only [Act.put, List.setIfInBounds_toArray, List.set_cons_zero, List.set_cons_succ, i64_w, i32_w]
    rfl
  refine pure_ (i := 30) (N := some 66) (v := ?_) (a' := ?_) (bm 47 2147483647) rfl rfl (by kernel_rfl) (fun _ _ _ h => h) (Or.inl ⟨by rfl, ?_⟩) ?_ ?_
  rotate_left
  · intro w'
    go_simp
    with_reducible rfl
  rotate_left
  · simp only [Act.put, List.setIfInBounds_toArray, List.set_cons_zero, List.set_cons_succ, i64_w, i32_w]
    rfl
  refine take_ (i := 31) (N := some 67) (v := ?_) (a' := ?_) (bm 47 4294967295) rfl rfl (by kernel_rfl) (fun _ _ _ h => h) (Or.inl ⟨by rfl, ?_⟩) hHeld ?_ ?_
  rotate_left
  · rintro w' ⟨s0, s1, s2⟩
    have q0 := cell_of (j := 0) s0 rfl
    have q1 := cell_of (j := 1) s0 rfl
    have q2 := cell_of (j := 2) s0 rfl
    have q3 := cell_of (j := 3) s0 rfl
    go_simp
    with_reducible rfl
  rotate_left
  · simp only [Act.put, List.setIfInBounds_toArray, List.set_cons_zero, List.set_cons_succ, i64_w, i32_w]
    rfl
  refine take_ (i := 32) (N := some 68) (v := ?_) (a' := ?_) (bm 47 8589934591) rfl rfl (by kernel_rfl) (fun _ _ _ h => h) (Or.inl ⟨by rfl, ?_⟩) hHeld ?_ ?_
  rotate_left
  · rintro w' ⟨s0, s1, s2⟩
    have q0 := cell_of (j := 0) s0 rfl
    have q1 := cell_of (j := 1) s0 rfl
    have q2 := cell_of (j := 2) s0 rfl
    have q3 := cell_of (j := 3) s0 rfl
    go_simp
    with_reducible rfl
  rotate_left
  · simp only [Act.put, List.setIfInBounds_toArray, List.set_cons_zero, List.set_cons_succ, i64_w, i32_w]
    rfl
  refine one_ (i := 33) (N := some 69) (bm 47 17179869183) rfl rfl (by kernel_rfl) (by decide) (fun K hK => ?_)
  refine goes_ Tryd.func18 (by kernel_rfl) rfl #[.agg #[.string t.name, .int .u8 t.kind, .string t.data, .slice A t.files.length c], .agg #[.string t.name, .int .u8 t.kind, .string t.data, .slice A t.files.length c]] (by rfl) rfl rfl (by simp only [List.map_toArray, List.map_cons, List.map_nil]; rfl) ?_
  refine (HSS.out _ g5).mono ?_
  rintro e x6 ⟨rfl, g6⟩
  refine ⟨_, rfl, ?_⟩
  refine hK.out _ _ (HX.out _ g6) (fun hHeld => ?_)
  refine norm_ (a' := ?_) ?_ ?_
  rotate_left
  · show Act.put _ (some 69) _ = _
    simp only [Act.put, List.setIfInBounds_toArray, List.set_cons_zero, List.set_cons_succ, i64_w, i32_w]
    rfl
  refine pure_ (i := 34) (N := some 70) (v := ?_) (a' := ?_) (bm 47 34359738367) rfl rfl (by kernel_rfl) (fun _ _ _ h => h) (Or.inl ⟨by rfl, ?_⟩) ?_ ?_
  rotate_left
  · intro w'
    go_simp
    with_reducible rfl
  rotate_left
  · simp only [Act.put, List.setIfInBounds_toArray, List.set_cons_zero, List.set_cons_succ, i64_w, i32_w]
    rfl
  refine pure_ (i := 35) (N := some 71) (v := ?_) (a' := ?_) (bm 47 68719476735) rfl rfl (by kernel_rfl) (fun _ _ _ h => h) (Or.inl ⟨by rfl, ?_⟩) ?_ ?_
  rotate_left
  · intro w'
    go_simp
    with_reducible rfl
  rotate_left
  · simp only [Act.put, List.setIfInBounds_toArray, List.set_cons_zero, List.set_cons_succ, i64_w, i32_w]
    rfl
  refine take_ (i := 36) (N := some 72) (v := ?_) (a' := ?_) (bm 47 137438953471) rfl rfl (by kernel_rfl) (fun _ _ _ h => h) (Or.inl ⟨by rfl, ?_⟩) hHeld ?_ ?_
  rotate_left
  · rintro w' ⟨s0, s1, s2⟩
    have q0 := cell_of (j := 0) s2 rfl
    have q1 := cell_of (j := 1) s2 rfl
    have q2 := cell_of (j := 2) s2 rfl
    have q3 := cell_of (j := 3) s2 rfl
    go_simp
    with_reducible rfl
  rotate_left
  · simp only [Act.put, List.setIfInBounds_toArray, List.set_cons_zero, List.set_cons_succ, i64_w, i32_w]
    rfl
  refine take_ (i := 38) (N := some 74) (v := ?_) (a' := ?_) (bm 47 412316860415) rfl rfl (by kernel_rfl) (fun _ _ _ h => h) (Or.inl ⟨by rfl, ?_⟩) hHeld ?_ ?_
  rotate_left
  · rintro w' ⟨s0, s1, s2⟩
    have q0 := cell_of (j := 0) s0 rfl
    have q1 := cell_of (j := 1) s0 rfl
    have q2 := cell_of (j := 2) s0 rfl
    have q3 := cell_of (j := 3) s0 rfl
    go_simp
    with_reducible rfl
  rotate_left
  · simp only [Act.put, List.setIfInBounds_toArray, List.set_cons_zero, List.set_cons_succ, i64_w, i32_w]
    rfl
  refine one_ (i := 37) (N := some 73) (bm 47 549755813887) rfl rfl (by kernel_rfl) (by decide) (fun K hK => ?_)
  refine goes_ Tryd.func19 (by kernel_rfl) rfl #[.agg #[.string t.name, .int .u8 t.kind, .string t.data, .slice A1 t.files.length c1]] (by rfl) rfl rfl (by simp only [List.map_toArray, List.map_cons, List.map_nil]; rfl) ?_
  refine (HCP.out _ g6).mono ?_
  rintro e x7 ⟨A9, c9, rfl, hc9, hx9', g7⟩
  refine ⟨_, rfl, ?_⟩
  refine hK.out _ _ (HX.out _ g7) (fun hHeld => ?_)
  refine norm_ (a' := ?_) ?_ ?_
  rotate_left
  · show Act.put _ (some 73) _ = _
    simp only [Act.put, List.setIfInBounds_toArray, List.set_cons_zero, List.set_cons_succ, i64_w, i32_w]
    rfl
  refine one_ (i := 39) (N := some 75) (bm 47 1099511627775) rfl rfl (by kernel_rfl) (by decide) (fun K hK => ?_)
  refine goes_ Tryd.func11 (by kernel_rfl) rfl #[.agg #[.string t.name, .int .u8 t.kind, .string t.data, .slice A9 t.files.length c9], .agg #[.string t.name, .int .u8 t.kind, .string t.data, .slice A t.files.length c]] (by rfl) rfl rfl (by simp only [List.map_toArray, List.map_cons, List.map_nil]; rfl) ?_
  refine (HXT.out A9 c9 x7 _ g7 hc9 hx9' (Below.refl _ _) g7).mono ?_
  rintro e x8 ⟨rfl, g8⟩
  refine ⟨_, rfl, ?_⟩
  refine hK.out _ _ (HX.out _ g8) (fun hHeld => ?_)
  refine norm_ (a' := ?_) ?_ ?_
  rotate_left
  · show Act.put _ (some 75) _ = _
    simp only [Act.put, List.setIfInBounds_toArray, List.set_cons_zero, List.set_cons_succ, i64_w, i32_w]
    rfl
  refine pure_ (i := 40) (N := some 76) (v := ?_) (a' := ?_) (bm 47 2199023255551) rfl rfl (by kernel_rfl) (fun _ _ _ h => h) (Or.inl ⟨by rfl, ?_⟩) ?_ ?_
  rotate_left
  · intro w'
    go_simp
    with_reducible rfl
  rotate_left
  · simp only [Act.put, List.setIfInBounds_toArray, List.set_cons_zero, List.set_cons_succ, i64_w, i32_w]
    rfl
  refine pure_ (i := 41) (N := some 77) (v := ?_) (a' := ?_) (bm 47 4398046511103) rfl rfl (by kernel_rfl) (fun _ _ _ h => h) (Or.inl ⟨by rfl, ?_⟩) ?_ ?_
  rotate_left
  · intro w'
    go_simp
    with_reducible rfl
  rotate_left
  · simp only [Act.put, List.setIfInBounds_toArray, List.set_cons_zero, List.set_cons_succ, i64_w, i32_w]
    rfl
  refine take_ (i := 42) (N := some 78) (v := ?_) (a' := ?_) (bm 47 8796093022207) rfl rfl (by kernel_rfl) (fun _ _ _ h => h) (Or.inl ⟨by rfl, ?_⟩) hHeld ?_ ?_
  rotate_left
  · rintro w' ⟨s0, s1, s2⟩
    have q0 := cell_of (j := 0) s2 rfl
    have q1 := cell_of (j := 1) s2 rfl
    have q2 := cell_of (j := 2) s2 rfl
    have q3 := cell_of (j := 3) s2 rfl
    go_simp
    with_reducible rfl
  rotate_left
  · simp only [Act.put, List.setIfInBounds_toArray, List.set_cons_zero, List.set_cons_succ, i64_w, i32_w]
    rfl
  refine take_ (i := 43) (N := some 79) (v := ?_) (a' := ?_) (bm 47 17592186044415) rfl rfl (by kernel_rfl) (fun _ _ _ h => h) (Or.inl ⟨by rfl, ?_⟩) hHeld ?_ ?_
  rotate_left
  · rintro w' ⟨s0, s1, s2⟩
    have q0 := cell_of (j := 0) s0 rfl
    have q1 := cell_of (j := 1) s0 rfl
    have q2 := cell_of (j := 2) s0 rfl
    have q3 := cell_of (j := 3) s0 rfl
    go_simp
    with_reducible rfl
  rotate_left
  · simp only [Act.put, List.setIfInBounds_toArray, List.set_cons_zero, List.set_cons_succ, i64_w, i32_w]
    rfl
  refine one_ (i := 44) (N := some 80) (bm 47 35184372088831) rfl rfl (by kernel_rfl) (by decide) (fun K hK => ?_)
  refine goes_ Tryd.func11 (by kernel_rfl) rfl #[.agg #[.string t.name, .int .u8 t.kind, .string t.data, .slice A1 t.files.length c1], .agg #[.string t.name, .int .u8 t.kind, .string t.data, .slice A t.files.length c]] (by rfl) rfl rfl (by simp only [List.map_toArray, List.map_cons, List.map_nil]; rfl) ?_
  refine (HCT.out _ g8).mono ?_
  rintro e x9 ⟨rfl, g9⟩
  refine ⟨_, rfl, ?_⟩
  refine hK.out _ _ (HX.out _ g9) (fun hHeld => ?_)
  refine norm_ (a' := ?_) ?_ ?_
  rotate_left
  · show Act.put _ (some 80) _ = _
    simp only [Act.put, List.setIfInBounds_toArray, List.set_cons_zero, List.set_cons_succ, i64_w, i32_w]
    rfl
  refine pure_ (i := 45) (N := some 81) (v := ?_) (a' := ?_) (bm 47 70368744177663) rfl rfl (by kernel_rfl) (fun _ _ _ h => h) (Or.inl ⟨by rfl, ?_⟩) ?_ ?_
  rotate_left
  · intro w'
    go_simp
    with_reducible rfl
  rotate_left
  · simp only [Act.put, List.setIfInBounds_toArray, List.set_cons_zero, List.set_cons_succ, i64_w, i32_w]
    rfl
  refine pure_ (i := 46) (N := some 4) (v := ?_) (a' := ?_) (bm 47 140737488355327) rfl rfl (by kernel_rfl) (fun _ _ _ h => h) (Or.inl ⟨by rfl, ?_⟩) ?_ ?_
  rotate_left
  · intro w'
    go_simp
    with_reducible rfl
  rotate_left
  · simp only [Act.put, List.setIfInBounds_toArray, List.set_cons_zero, List.set_cons_succ, i64_w, i32_w]
    rfl
  refine done_ (by kernel_rfl) ?_
  go_wp2_with fail
  go_ret
  exact ⟨rfl, bstep hbw6 hbw6.size g9⟩
end Go.Proofs.YtdnhjnlhmfajnaaDoor.G
