/- The law TreesBack, walked. -/
import Derived.Test.YtdnhjnlhmfajnaaDoorTLives
import Derived.Test.YtdnhjnlhmfajnaaDoorTBack4
namespace Go.Proofs.YtdnhjnlhmfajnaaDoor.G
open Go.RowKit Go.Lib Go.Proofs.YtdnhjnlhmfajnaaDoorW.PrintWords Go.Proofs.YtdnhjnlhmfajnaaDoorW.PrintLast
set_option linter.unusedVariables false
set_option linter.unusedSimpArgs false

theorem check_code (f : File) : (checkR f).1 = if rightT f then 0 else 30 := by
  unfold rightT checkR
  split
  · cases wrongN f.bulk f [] with
    | none => rfl
    | some b => rfl
  · rfl

set_option maxHeartbeats 8000000 in
set_option maxRecDepth 100000 in
theorem lback_calls (t : File) (A : Option Addr) (c : Nat) (s : ByteArray) (w : World) (hr : FileK.C w A t.files.length t.files) (hc : t.files.length ≤ c) (hb1 : t.bulk ≤ 1048576) (hs : s.size ≤ 1048576) (hG : Tab w) (hM : Maxed w) :
    Calls Tryd.prog 3 #[fileV t A c, .string s] w fun e w' => e = .returned (.bool true) ∧ Below w.heap.size w w' := by
  have hub := tree_bulk s
  have hrr := read_right s
  have HG := Lib.hid hG
  have HM := Lib.hid hM
  have HR := Lib.hid hr
  have hn0 := blk_new w (.cells #[.string t.name, .int .u8 t.kind, .string t.data, .slice A t.files.length c] 25)
  have hb0 := below_alloc (Below.refl w.heap.size w) (.cells #[.string t.name, .int .u8 t.kind, .string t.data, .slice A t.files.length c] 25)
  have hz0 : w.heap.size < (w.alloc (.cells #[.string t.name, .int .u8 t.kind, .string t.data, .slice A t.files.length c] 25)).heap.size := by simp
  have HLV : Hid (∀ W, Below w.heap.size w W → Calls Tryd.prog 7 #[] W fun e w' => e = .returned (.bool true) ∧ Below W.heap.size W w') := Lib.hid fun W h => lives_calls W (Tab_b HG.out h) (Maxed_below HM.out h)
  have HPR : Hid (∀ W, Below w.heap.size w W → Calls Tryd.prog 8 #[.agg #[.string t.name, .int .u8 t.kind, .string t.data, .slice A t.files.length c]] W fun e w' => e = .returned (.tuple (if rightT t then #[.string ⟨(printL (preF [] t)).toArray⟩, .int .i64 0] else #[.string ⟨#[]⟩, .int .i64 30])) ∧ Below W.heap.size W w') := Lib.hid fun W h =>
    (show Calls Tryd.prog 8 #[fileV t A c] W _ from print_calls t A c W (by omega) (Kd.C_below HR.out h) hc (Tab_b HG.out h))
  have HCK : Hid (∀ W, Below w.heap.size w W → Calls Tryd.prog 9 #[.agg #[.string t.name, .int .u8 t.kind, .string t.data, .slice A t.files.length c]] W fun e w' => ∃ v, e = .returned (.tuple #[.int .i64 (if rightT t then 0 else 30), v]) ∧ Below W.heap.size W w') := Lib.hid fun W h =>
    (show Calls Tryd.prog 9 #[fileV t A c] W _ from check_calls t A c W (by omega) (Kd.C_below HR.out h) hc).mono (by
      rintro e w' ⟨v, rfl, _, hb⟩
      exact ⟨v, by rw [check_code], hb⟩)
  have HRT : Hid (rightT t = true → ∀ W, Below w.heap.size w W → Calls Tryd.prog 10 #[.string ⟨(printL (preF [] t)).toArray⟩] W fun e w' => ∃ B d, e = .returned (.tuple #[.agg #[.string t.name, .int .u8 t.kind, .string t.data, .slice B t.files.length d], .int .i64 0, .agg #[.int .i64 0, .int .i64 0]]) ∧ t.files.length ≤ d ∧ FileK.C w' B t.files.length t.files ∧ Below W.heap.size W w') := Lib.hid fun hrt W h =>
    (ReadL_calls _ W (text_size hrt (by omega)) (text_lines hrt (by omega)) (Tab_b HG.out h) (Maxed_below HM.out h)).mono (by
      rintro e w' ⟨B, d, rfl, hd, hC, hb⟩
      rw [read_back hrt] at hd hC ⊢
      exact ⟨B, d, rfl, hd, hC, hb⟩)
  have HST : Hid (∀ B d W, Below w.heap.size w W → t.files.length ≤ d → FileK.C W B t.files.length t.files → Calls Tryd.prog 11 #[.agg #[.string t.name, .int .u8 t.kind, .string t.data, .slice B t.files.length d], .agg #[.string t.name, .int .u8 t.kind, .string t.data, .slice A t.files.length c]] W fun e w' => e = .returned (.bool true) ∧ Below W.heap.size W w') := Lib.hid fun B d W h hd hC =>
    (show Calls Tryd.prog 11 #[fileV t B d, fileV t A c] W _ from rsame_file _ t t B d A c W (Nat.le_refl _) (by omega) hC hd (Kd.C_below HR.out h) hc).mono (by
      rintro e w' ⟨rfl, hb⟩
      exact ⟨by rw [sameT_self], hb⟩)
  have HRS0 : Hid (∀ W, Below w.heap.size w W → Calls Tryd.prog 10 #[.string s] W fun e w' => ∃ B d, e = .returned (.tuple #[.agg #[.string (treeR s).1.name, .int .u8 (treeR s).1.kind, .string (treeR s).1.data, .slice B (treeR s).1.files.length d], .int .i64 (treeR s).2.1, .agg #[.int .i64 (treeR s).2.2.1, .int .i64 (treeR s).2.2.2]]) ∧ (treeR s).1.files.length ≤ d ∧ FileK.C w' B (treeR s).1.files.length (treeR s).1.files ∧ Below W.heap.size W w') := Lib.hid fun W h => Read_calls s W (by omega) (Tab_b HG.out h) (Maxed_below HM.out h)
  obtain ⟨⟨u, cd, fl, fr⟩, htr⟩ : ∃ x, treeR s = x := ⟨_, rfl⟩
  rw [htr] at HRS0 hub hrr
  simp only at hub hrr
  have HRS : Hid (∀ W, Below w.heap.size w W → Calls Tryd.prog 10 #[.string s] W fun e w' => ∃ B d, e = .returned (.tuple #[.agg #[.string u.name, .int .u8 u.kind, .string u.data, .slice B u.files.length d], .int .i64 cd, .agg #[.int .i64 fl, .int .i64 fr]]) ∧ u.files.length ≤ d ∧ FileK.C w' B u.files.length u.files ∧ Below W.heap.size W w') := HRS0
  have HCD := Lib.hid hrr
  have HPU : Hid (rightT u = true → ∀ B d W, Below w.heap.size w W → u.files.length ≤ d → FileK.C W B u.files.length u.files → Calls Tryd.prog 8 #[.agg #[.string u.name, .int .u8 u.kind, .string u.data, .slice B u.files.length d]] W fun e w' => e = .returned (.tuple #[.string ⟨(printL (preF [] u)).toArray⟩, .int .i64 0]) ∧ Below W.heap.size W w') := Lib.hid fun hru B d W h hd hC =>
    (show Calls Tryd.prog 8 #[fileV u B d] W _ from print_calls u B d W (by omega) hC hd (Tab_b HG.out h)).mono (by
      rintro e w' ⟨rfl, hb⟩
      exact ⟨by rw [if_pos hru], hb⟩)
  have HRU : Hid (rightT u = true → ∀ W, Below w.heap.size w W → Calls Tryd.prog 10 #[.string ⟨(printL (preF [] u)).toArray⟩] W fun e w' => ∃ B d, e = .returned (.tuple #[.agg #[.string u.name, .int .u8 u.kind, .string u.data, .slice B u.files.length d], .int .i64 0, .agg #[.int .i64 0, .int .i64 0]]) ∧ u.files.length ≤ d ∧ FileK.C w' B u.files.length u.files ∧ Below W.heap.size W w') := Lib.hid fun hru W h =>
    (ReadL_calls _ W (text_size hru (by omega)) (text_lines hru (by omega)) (Tab_b HG.out h) (Maxed_below HM.out h)).mono (by
      rintro e w' ⟨B, d, rfl, hd, hC, hb⟩
      rw [read_back hru] at hd hC ⊢
      exact ⟨B, d, rfl, hd, hC, hb⟩)
  have HSU : Hid (∀ B d X x W, u.files.length ≤ d → FileK.C W B u.files.length u.files → u.files.length ≤ x → FileK.C W X u.files.length u.files → Calls Tryd.prog 11 #[.agg #[.string u.name, .int .u8 u.kind, .string u.data, .slice B u.files.length d], .agg #[.string u.name, .int .u8 u.kind, .string u.data, .slice X u.files.length x]] W fun e w' => e = .returned (.bool true) ∧ Below W.heap.size W w') := Lib.hid fun B d X x W hd hD hx hX =>
    (show Calls Tryd.prog 11 #[fileV u B d, fileV u X x] W _ from rsame_file _ u u B d X x W (Nat.le_refl _) (by omega) hD hd hX hx).mono (by
      rintro e w' ⟨rfl, hb⟩
      exact ⟨by rw [sameT_self], hb⟩)
  clear hr hG hM htr hrr hub HRS0
  generalize (⟨(printL (preF [] t)).toArray⟩ : ByteArray) = tx at *
  generalize (⟨(printL (preF [] u)).toArray⟩ : ByteArray) = ux at *
  go_enter Tryd.func3, Tryd.ntmps3
  unfold fileV
  go_wp2_with fail
  generalize w.alloc (.cells #[.string t.name, .int .u8 t.kind, .string t.data, .slice A t.files.length c] 25) = W1 at *
  refine (HLV.out W1 hb0).mono ?_
  rintro e w2 ⟨rfl, hb2⟩
  have hw2 := bstep hb0 hb0.size hb2
  have hT2 := (hb2.block w.heap.size hz0).trans hn0
  have y0 := cell_of (j := 0) hT2 rfl
  have y1 := cell_of (j := 1) hT2 rfl
  have y2 := cell_of (j := 2) hT2 rfl
  have y3 := cell_of (j := 3) hT2 rfl
  have hs2 := hb2.size
  go_wp2_with fail
  refine (HPR.out w2 hw2).mono ?_
  rintro e w3 ⟨rfl, hb3⟩
  have hw3 := bstep hw2 hw2.size hb3
  have hs3 := hb3.size
  have hT3 := (hb3.block w.heap.size (by omega)).trans hT2
  clear y0 y1 y2 y3
  have y0 := cell_of (j := 0) hT3 rfl
  have y1 := cell_of (j := 1) hT3 rfl
  have y2 := cell_of (j := 2) hT3 rfl
  have y3 := cell_of (j := 3) hT3 rfl
  cases hrt : rightT t
  · have HCK2 := Lib.hid (HCK.out w3 hw3)
    rw [hrt] at HCK2
    simp only [Bool.false_eq_true, if_false] at HCK2 ⊢
    clear HRT HST HPR
    go_wp2_with fail
    refine HCK2.out.mono ?_
    rintro e w4 ⟨vc, rfl, hb4⟩
    have hw4 := bstep hw3 hw3.size hb4
    clear y0 y1 y2 y3 HCK HCK2
    go_wp2_with fail
    refine (HRS.out _ (hw4)).mono ?_
    rintro e v1 ⟨B, d, rfl, hd, hD, hbv1⟩
    have hv1 := bstep (hw4) (Below.size hw4) hbv1
    have HD := Lib.hid hD
    have hbu := two_boxes v1 #[.string u.name, .int .u8 u.kind, .string u.data, .slice B u.files.length d] #[.int .i64 fl, .int .i64 fr] 25 35
    have hbz := below_alloc (below_alloc (Below.refl v1.heap.size v1) (.cells #[.string u.name, .int .u8 u.kind, .string u.data, .slice B u.files.length d] 25)) (.cells #[.int .i64 fl, .int .i64 fr] 35)
    have hzu : v1.heap.size < ((v1.alloc (.cells #[.string u.name, .int .u8 u.kind, .string u.data, .slice B u.files.length d] 25)).alloc (.cells #[.int .i64 fl, .int .i64 fr] 35)).heap.size := by simp; omega
    have y0 := cell_of (j := 0) hbu.1 rfl
    have y1 := cell_of (j := 1) hbu.1 rfl
    have y2 := cell_of (j := 2) hbu.1 rfl
    have y3 := cell_of (j := 3) hbu.1 rfl
    have hv2 := bstep hv1 hv1.size hbz
    clear hD hbv1
    rcases HCD.out with ⟨hcd, hru⟩ | hcd
    · subst hcd
      go_wp2_with fail
      generalize ((v1.alloc (.cells #[.string u.name, .int .u8 u.kind, .string u.data, .slice B u.files.length d] 25)).alloc (.cells #[.int .i64 fl, .int .i64 fr] 35)) = V2 at *
      refine (HPU.out hru B d V2 hv2 hd (Kd.C_below HD.out hbz)).mono ?_
      rintro e v3 ⟨rfl, hb3⟩
      have hv3 := bstep hv2 hv2.size hb3
      clear y0 y1 y2 y3
      go_wp2_with fail
      refine (HRU.out hru v3 hv3).mono ?_
      rintro e v4 ⟨X, x, rfl, hx, hX, hb4⟩
      have hv4 := bstep hv3 hv3.size hb4
      have hbu4 := two_boxes v4 #[.string u.name, .int .u8 u.kind, .string u.data, .slice X u.files.length x] #[.int .i64 0, .int .i64 0] 25 35
      have hbz4 := below_alloc (below_alloc (Below.refl v4.heap.size v4) (.cells #[.string u.name, .int .u8 u.kind, .string u.data, .slice X u.files.length x] 25)) (.cells #[.int .i64 0, .int .i64 0] 35)
      have z0 := cell_of (j := 0) hbu4.1 rfl
      have z1 := cell_of (j := 1) hbu4.1 rfl
      have z2 := cell_of (j := 2) hbu4.1 rfl
      have z3 := cell_of (j := 3) hbu4.1 rfl
      have hb24 := bstep hb3 hb3.size (bstep hb4 hb4.size hbz4)
      have hb24' := hb3.trans ((hb4.trans (hbz4.mono hb4.size)).mono hb3.size)
      have hU := (hb24'.block v1.heap.size hzu).trans hbu.1
      have y0 := cell_of (j := 0) hU rfl
      have y1 := cell_of (j := 1) hU rfl
      have y2 := cell_of (j := 2) hU rfl
      have y3 := cell_of (j := 3) hU rfl
      go_wp2_with fail
      generalize ((v4.alloc (.cells #[.string u.name, .int .u8 u.kind, .string u.data, .slice X u.files.length x] 25)).alloc (.cells #[.int .i64 0, .int .i64 0] 35)) = V5 at *
      have hv5 := bstep hv4 hv4.size hbz4
      refine (HSU.out B d X x V5 hd (Kd.C_below (Kd.C_below HD.out hbz) hb24') hx (Kd.C_below hX hbz4)).mono ?_
      rintro e v6 ⟨rfl, hb6⟩
      clear y0 y1 y2 y3 z0 z1 z2 z3
      go_wp2_with fail
      go_ret
      exact ⟨rfl, bstep hv5 hv5.size hb6⟩
    · subst hcd
      go_wp2_with fail
      go_ret
      exact ⟨rfl, hv2⟩
  · have HCK2 := Lib.hid (HCK.out w3 hw3)
    rw [hrt] at HCK2
    simp only [if_true] at HCK2 ⊢
    have HRT2 := Lib.hid (HRT.out hrt)
    clear HRT HPR
    go_wp2_with fail
    refine HCK2.out.mono ?_
    rintro e w4 ⟨vc, rfl, hb4⟩
    have hw4 := bstep hw3 hw3.size hb4
    have hs4 := hb4.size
    have hT4 := (hb4.block w.heap.size (by omega)).trans hT3
    clear y0 y1 y2 y3 HCK HCK2
    go_wp2_with fail
    refine (HRT2.out w4 hw4).mono ?_
    rintro e w5 ⟨B9, d9, rfl, hd9, hD9, hb5⟩
    have hw5 := bstep hw4 hw4.size hb5
    have hs5 := hb5.size
    have hbu9 := two_boxes w5 #[.string t.name, .int .u8 t.kind, .string t.data, .slice B9 t.files.length d9] #[.int .i64 0, .int .i64 0] 25 35
    have hbz9 := below_alloc (below_alloc (Below.refl w5.heap.size w5) (.cells #[.string t.name, .int .u8 t.kind, .string t.data, .slice B9 t.files.length d9] 25)) (.cells #[.int .i64 0, .int .i64 0] 35)
    have hT5 := (hbz9.block w.heap.size (by omega)).trans ((hb5.block w.heap.size (by omega)).trans hT4)
    have z0 := cell_of (j := 0) hbu9.1 rfl
    have z1 := cell_of (j := 1) hbu9.1 rfl
    have z2 := cell_of (j := 2) hbu9.1 rfl
    have z3 := cell_of (j := 3) hbu9.1 rfl
    have y0 := cell_of (j := 0) hT5 rfl
    have y1 := cell_of (j := 1) hT5 rfl
    have y2 := cell_of (j := 2) hT5 rfl
    have y3 := cell_of (j := 3) hT5 rfl
    have hw6 := bstep hw5 hw5.size hbz9
    go_wp2_with fail
    generalize ((w5.alloc (.cells #[.string t.name, .int .u8 t.kind, .string t.data, .slice B9 t.files.length d9] 25)).alloc (.cells #[.int .i64 0, .int .i64 0] 35)) = W6 at *
    refine (HST.out B9 d9 W6 hw6 hd9 (Kd.C_below hD9 hbz9)).mono ?_
    rintro e w7 ⟨rfl, hb7⟩
    have hw7 := bstep hw6 hw6.size hb7
    clear y0 y1 y2 y3 z0 z1 z2 z3 HST HRT2
    go_wp2_with fail
    refine (HRS.out _ (hw7)).mono ?_
    rintro e v1 ⟨B, d, rfl, hd, hD, hbv1⟩
    have hv1 := bstep (hw7) (Below.size hw7) hbv1
    have HD := Lib.hid hD
    have hbu := two_boxes v1 #[.string u.name, .int .u8 u.kind, .string u.data, .slice B u.files.length d] #[.int .i64 fl, .int .i64 fr] 25 35
    have hbz := below_alloc (below_alloc (Below.refl v1.heap.size v1) (.cells #[.string u.name, .int .u8 u.kind, .string u.data, .slice B u.files.length d] 25)) (.cells #[.int .i64 fl, .int .i64 fr] 35)
    have hzu : v1.heap.size < ((v1.alloc (.cells #[.string u.name, .int .u8 u.kind, .string u.data, .slice B u.files.length d] 25)).alloc (.cells #[.int .i64 fl, .int .i64 fr] 35)).heap.size := by simp; omega
    have y0 := cell_of (j := 0) hbu.1 rfl
    have y1 := cell_of (j := 1) hbu.1 rfl
    have y2 := cell_of (j := 2) hbu.1 rfl
    have y3 := cell_of (j := 3) hbu.1 rfl
    have hv2 := bstep hv1 hv1.size hbz
    clear hD hbv1
    rcases HCD.out with ⟨hcd, hru⟩ | hcd
    · subst hcd
      go_wp2_with fail
      generalize ((v1.alloc (.cells #[.string u.name, .int .u8 u.kind, .string u.data, .slice B u.files.length d] 25)).alloc (.cells #[.int .i64 fl, .int .i64 fr] 35)) = V2 at *
      refine (HPU.out hru B d V2 hv2 hd (Kd.C_below HD.out hbz)).mono ?_
      rintro e v3 ⟨rfl, hb3⟩
      have hv3 := bstep hv2 hv2.size hb3
      clear y0 y1 y2 y3
      go_wp2_with fail
      refine (HRU.out hru v3 hv3).mono ?_
      rintro e v4 ⟨X, x, rfl, hx, hX, hb4⟩
      have hv4 := bstep hv3 hv3.size hb4
      have hbu4 := two_boxes v4 #[.string u.name, .int .u8 u.kind, .string u.data, .slice X u.files.length x] #[.int .i64 0, .int .i64 0] 25 35
      have hbz4 := below_alloc (below_alloc (Below.refl v4.heap.size v4) (.cells #[.string u.name, .int .u8 u.kind, .string u.data, .slice X u.files.length x] 25)) (.cells #[.int .i64 0, .int .i64 0] 35)
      have z0 := cell_of (j := 0) hbu4.1 rfl
      have z1 := cell_of (j := 1) hbu4.1 rfl
      have z2 := cell_of (j := 2) hbu4.1 rfl
      have z3 := cell_of (j := 3) hbu4.1 rfl
      have hb24 := bstep hb3 hb3.size (bstep hb4 hb4.size hbz4)
      have hb24' := hb3.trans ((hb4.trans (hbz4.mono hb4.size)).mono hb3.size)
      have hU := (hb24'.block v1.heap.size hzu).trans hbu.1
      have y0 := cell_of (j := 0) hU rfl
      have y1 := cell_of (j := 1) hU rfl
      have y2 := cell_of (j := 2) hU rfl
      have y3 := cell_of (j := 3) hU rfl
      go_wp2_with fail
      generalize ((v4.alloc (.cells #[.string u.name, .int .u8 u.kind, .string u.data, .slice X u.files.length x] 25)).alloc (.cells #[.int .i64 0, .int .i64 0] 35)) = V5 at *
      have hv5 := bstep hv4 hv4.size hbz4
      refine (HSU.out B d X x V5 hd (Kd.C_below (Kd.C_below HD.out hbz) hb24') hx (Kd.C_below hX hbz4)).mono ?_
      rintro e v6 ⟨rfl, hb6⟩
      clear y0 y1 y2 y3 z0 z1 z2 z3
      go_wp2_with fail
      go_ret
      exact ⟨rfl, bstep hv5 hv5.size hb6⟩
    · subst hcd
      go_wp2_with fail
      go_ret
      exact ⟨rfl, hv2⟩
end Go.Proofs.YtdnhjnlhmfajnaaDoor.G
