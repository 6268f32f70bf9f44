/- The law PathsOwn: it returns true. -/
import Derived.Test.YtdhchmonmbppmaaDoorOwn
import Derived.Test.YtdhchmonmbppmaaDoorLCover
namespace Go.Proofs.YtdhchmonmbppmaaDoor.G
open Go.RowKit Go.Lib Go.Proofs.YtdhchmonmbppmaaDoorW.PrintWords Go.Proofs.YtdhchmonmbppmaaDoorW.PrintLast
set_option linter.unusedVariables false

def xB : ByteArray := ⟨#[120]⟩
def yB : ByteArray := ⟨#[121]⟩
theorem len_mem {ll out : List (List ByteArray)} {B : Nat} (h : ∀ x ∈ out, x ∈ ll) (hs : sumLL ll ≤ B) : LenTo out B := by
  intro j
  by_cases hj : j < out.length
  · have hg : out.getD j [] = out[j] := by simp [List.getD, hj]
    rw [hg]
    have := sumLL_mem (h _ (List.getElem_mem hj))
    omega
  · have hg : out.getD j [] = [] := by simp [List.getD, List.getElem?_eq_none (show out.length ≤ j by omega)]
    rw [hg]; simp

set_option maxHeartbeats 16000000 in
set_option maxRecDepth 100000 in
theorem lown_calls (A : Option Addr) (c : Nat) (p : List ByteArray) (s : ByteArray) (B : Option Addr) (d : Nat) (ll : List (List ByteArray)) (w : World) (hr : Kd.C Kd.string w A p.length p) (hc : p.length ≤ c) (hl : p.length ≤ 1048576) (hs : sumP p ≤ 2097152)
    (hr2 : Kd.C PathK w B ll.length ll) (hd : ll.length ≤ d) (hl2 : sumLL ll ≤ 2097152) :
    Calls Tryd.prog 10 #[.slice A p.length c, .string s, .slice B ll.length d] w fun e w' => e = .returned (.bool true) ∧ Below w.heap.size w w' := by
  have hll := sumLL_len ll
  have HR := Lib.hid hr
  have HR2 := Lib.hid hr2
  clear hr hr2
  go_enter Tryd.func10, Tryd.ntmps10
  go_wp2_with fail
  refine (begins_calls _).mono ?_
  rintro e wB ⟨rfl, hbB⟩
  have HLit := Lib.hid (lit_paths wB xB yB)
  have hb2 : Below w.heap.size w ((wB.alloc (.cells #[.string xB, .string yB] 9)).alloc (.cells #[.slice (some ⟨wB.heap.size, 0, none⟩) 2 2] 23)) := (hbB.alloc hbB.size _).alloc (by simp; have := hbB.size; omega) _
  have HB2 := Lib.hid hb2
  clear hb2
  go_wp2_with fail
  refine (rcopies_calls B d ll _ (Kd.C_below HR2.out HB2.out) hd (by omega)).mono ?_
  rintro e w3 ⟨v3, rfl, ho3, hb3⟩
  obtain ⟨A3, c3, hv3, hc3, hRR⟩ := OwnRow.reads (Kd.R_bound ho3).2
  have HRR := Lib.hid hRR
  have HLit3 := Lib.hid (Kd.R_below HLit.out hb3)
  have hb3' := bstep HB2.out HB2.out.size hb3
  have hsz2 := HB2.out.size
  have hsz3 := hb3'.size
  obtain ⟨all, hall⟩ : ∃ all, all = [[xB, yB]] ++ ll := ⟨_, rfl⟩
  have hal1 : 0 < all.length := by rw [hall]; simp
  have hal2 : sumLL all ≤ 2097155 := by rw [hall]; simp [sumLL] at hl2 ⊢; omega
  have HALL := Lib.hid hall
  rw [hv3]
  have hbB0 := hbB.size
  have HSZ : Hid (wB.heap.size + 2 ≤ ((wB.alloc (.cells #[.string xB, .string yB] 9)).alloc (.cells #[.slice (some ⟨wB.heap.size, 0, none⟩) 2 2] 23)).heap.size) := Lib.hid (by simp)
  clear hRR ho3 hall HLit hbB
  go_wp2_with (at_builtin; refine Kd.R_append_rows PathK (w0 := w) w.heap.size rfl (.tmp 34) (.tmp 36) 43 23 (.slice none 0 0) 24 rfl Tryd.underlying43 info_path rfl (by decide) (by decide) _ [[xB, yB]] ll A3 ll.length c3 (fun _ => True) (fun k => wB.heap.size + 2 ≤ k) rfl rfl ?aO HRR.out ?aM ?aK (fun _ _ => trivial) ?aB ?aS ?aL ?_; (case aO => exact Kd.R_lower HLit3.out hbB0); (case aM => exact fun x cs h => PathK.M_lower hsz2 (PathK.M_mono (fun k hk => Nat.le_trans HSZ.out hk.1.2.1) h)); (case aK => exact fun j hj => ⟨trivial, fun e => by simp only [Value.ownBlock] at e; injection e with e; have e2 : j = wB.heap.size + 1 := e; omega⟩); (case aB => exact hb3'); (case aS => exact hsz3); (case aL => (show ([[xB, yB]].length + ll.length) * 24 ≤ 140737488355328; simp; omega)); intro v4 w4 ho4 hb4 hg4 hat4)
  rw [← HALL.out] at ho4
  obtain ⟨A4, c4, rfl, hc4, hC4⟩ := Kd.R_reads ho4
  have HC4 := Lib.hid hC4
  have hll4 := sumLL_len all
  clear ho4 hC4 hg4 hat4 HLit3 HRR hb3 hb3' HALL HB2 hv3
  go_wp2_with fail
  refine (rcopies_calls A4 c4 all w4 HC4.out hc4 (by omega)).mono ?_
  rintro e w5 ⟨v5, rfl, ho5, hb5⟩
  obtain ⟨A5, c5, rfl, hc5, hC5⟩ := Kd.R_reads ho5
  have HC5 := Lib.hid hC5
  have hb5' := bstep hb4 hb4.size hb5
  clear ho5 hC5
  go_wp2_with fail
  refine (rcopy_calls A c p w5 (Kd.C_below HR.out hb5') hc (by omega)).mono ?_
  rintro e w6 ⟨v6, rfl, ho6, hb6⟩
  obtain ⟨A6, c6, rfl, hc6, hC6⟩ := Kd.R_reads ho6
  have HC6 := Lib.hid hC6
  have hb6' := bstep hb5' hb5'.size hb6
  clear ho6 hC6
  have hnl := normR_length p s
  have HN := Lib.hid (fun W (h : Below w6.heap.size w6 W) => normal_calls A6 c6 p s W (Kd.C_below HC6.out h) hc6 (by omega) (by omega))
  generalize (normR p s).1 = np at *
  generalize (normR p s).2.1 = nb at *
  generalize (normR p s).2.2 = ne at *
  have h66 := Below.refl w6.heap.size w6
  go_wp2_with fail
  refine (HN.out _ h66).mono ?_
  rintro e w7 ⟨v7, rfl, ho7, hb7⟩
  obtain ⟨A7, c7, rfl, hc7, hC7⟩ := Kd.R_reads ho7
  have HO7 := Lib.hid ho7
  clear ho7 hC7 h66
  go_wp2_with fail
  refine (HN.out _ hb7).mono ?_
  rintro e w8 ⟨v8, rfl, ho8, hb8⟩
  obtain ⟨A8, c8, rfl, hc8, hC8⟩ := Kd.R_reads ho8
  have HO8 := Lib.hid ho8
  have HC8 := Lib.hid hC8
  have hb68 := hb7.trans (hb8.mono hb7.size)
  clear ho8 hC8 HN
  go_wp2_with fail
  refine (parent_calls A6 c6 p w8 (Kd.C_below HC6.out hb68) hc6 (by omega)).mono ?_
  rintro e w9 ⟨v9, rfl, ho9, hb9⟩
  generalize hpd : p.dropLast = pd at *
  have hpdl : pd.length ≤ 1048576 := by rw [← hpd]; simp; omega
  clear hpd
  obtain ⟨A9, c9, rfl, hc9, hC9⟩ := Kd.R_reads ho9
  have HO9 := Lib.hid ho9
  have hb69 := hb68.trans (hb9.mono hb68.size)
  have hb49 := hb5.trans ((hb6.trans (hb69.mono hb6.size)).mono hb5.size)
  clear ho9 hC9
  generalize lastP p = lp at *
  generalize (!p.isEmpty) = pe at *
  go_wp2_with fail
  refine (cover_callsS A4 c4 all w9 (Kd.C_below HC4.out hb49) hc4 (by omega)).mono ?_
  rintro e w10 ⟨v10, out, rfl, ho10, hst, hmem, hcov, hb10⟩
  obtain ⟨A10, c10, rfl, hc10, hC10⟩ := Kd.S_reads ho10
  have HO10 := Lib.hid ho10
  have hb410 := hb49.trans (hb10.mono hb49.size)
  clear ho10 hC10
  go_wp2_with fail
  refine (cover_calls A4 c4 all w10 (Kd.C_below HC4.out hb410) hc4 (by omega)).mono ?_
  rintro e w11 ⟨v11, out2, rfl, ho11, hst2, hmem2, hcov2, hb11⟩
  obtain rfl : out = out2 := strict_unique hst hst2 fun x => (hmem x).trans (hmem2 x).symm
  obtain ⟨A11, c11, rfl, hc11, hC11⟩ := Kd.R_reads ho11
  have HO11 := Lib.hid ho11
  have HC11 := Lib.hid hC11
  have hout : 0 < out.length := by
    obtain ⟨o, ho, _⟩ := hcov (all[0]'hal1) (List.getElem_mem hal1)
    exact List.length_pos_of_mem ho
  have hoL : LenTo out 2097155 := len_mem (fun x hx => ((hmem x).1 hx).1) hal2
  have hosum := Nat.le_trans (strict_sum hst hmem) hal2
  have holen := sumLL_len out
  clear ho11 hC11 hst hst2 hmem hmem2 hcov hcov2
  have hb411 := hb410.trans (hb11.mono hb410.size)
  have t1 : decide ((out.length : Int) < 1) = false := decide_eq_false (by omega)
  have t2 : ¬ (out.length : Int) < 1 := by omega
  have t3 : (ne != ne) = false := by simp
  go_wp2_with fail
  refine (rcopy_calls A8 c8 np w11 (Kd.C_below HC8.out (hb9.trans ((hb10.trans (hb11.mono hb10.size)).mono hb9.size))) hc8 (by omega)).mono ?_
  rintro e w12 ⟨v12, rfl, ho12, hb12⟩
  obtain ⟨A12, c12, rfl, hc12, hC12⟩ := Kd.R_reads ho12
  have HO12 := Lib.hid ho12
  clear ho12 hC12
  go_wp2_with fail
  refine (rcopies_calls A11 c11 out w12 (Kd.C_below HC11.out hb12) hc11 (by omega)).mono ?_
  rintro e w13 ⟨v13, rfl, ho13, hb13⟩
  obtain ⟨A13, c13, rfl, hc13, hC13⟩ := Kd.R_reads ho13
  have HO13 := Lib.hid ho13
  clear ho13 hC13
  have s3 := hb4.size
  have s4 := hb5.size
  have s5 := hb6.size
  have s6 := hb7.size
  have s7 := hb8.size
  have s8 := hb9.size
  have s9 := hb10.size
  have s10 := hb11.size
  have s11 := hb12.size
  have s12 := hb13.size
  have g11 := hb12.trans (hb13.mono s11)
  have g10 := hb11.trans (g11.mono s10)
  have g9 := hb10.trans (g10.mono s9)
  have g8 := hb9.trans (g9.mono s8)
  have g7 := hb8.trans (g8.mono s7)
  have g6 := hb7.trans (g7.mono s6)
  have g5 := hb6.trans (g6.mono s5)
  have g4 := hb5.trans (g5.mono s4)
  have hW := bstep hb4 hb4.size g4
  have HF : Hid (∀ W, Off (fun k => (w6.heap.size ≤ k ∧ k < w7.heap.size) ∨ (w8.heap.size ≤ k ∧ k < w10.heap.size)) w13 W → Below w.heap.size w W →
      Kd.C Kd.string W A8 np.length np ∧ Kd.C Kd.string W A12 np.length np ∧ Kd.C PathK W A11 out.length out ∧ Kd.C PathK W A13 out.length out
      ∧ Kd.C PathK W A4 all.length all ∧ Kd.C PathK W A5 all.length all ∧ Kd.C Kd.string W A6 p.length p ∧ Kd.C Kd.string W A p.length p) := Lib.hid (by
    intro W ho hb
    have hE : Below w6.heap.size w13 W := off_elder ho hW hb (by omega) (fun k hk => by omega)
    exact ⟨(Kd.R_reads' (off_R (R_span HO8.out g8) ho (fun k hk => by omega))).2.2, (Kd.R_reads' (off_R (R_span HO12.out hb13) ho (fun k hk => by omega))).2.2,
      (Kd.R_reads' (off_R (R_span HO11.out g11) ho (fun k hk => by omega))).2.2, (Kd.R_reads' (off_R (R_span HO13.out (Below.refl _ _)) ho (fun k hk => by omega))).2.2,
      Kd.C_below HC4.out (g4.trans (hE.mono (by omega))), Kd.C_below HC5.out (g5.trans (hE.mono (by omega))), Kd.C_below HC6.out (g6.trans hE), Kd.C_below HR.out hb⟩)
  have HA := Lib.hid (Kd.R_lower (base' := w.heap.size) (R_span HO7.out g7) (by omega))
  have HX := Lib.hid (Kd.R_lower (base' := w.heap.size) (R_span HO9.out g9) (by omega))
  have hS := Kd.S_lower (base' := w.heap.size) (S_span HO10.out g10) (by omega)
  obtain ⟨gc, cap, hv, _⟩ := Kd.S_form hS hout
  injection hv with hv _ hv'
  subst hv hv'
  have HS := Lib.hid hS
  have HOL := Lib.hid hoL
  have HW := Lib.hid hW
  have hz6 : w.heap.size ≤ w6.heap.size := by omega
  have hz8 : w.heap.size ≤ w8.heap.size := by omega
  clear hS hoL HO7 HO8 HO9 HO10 HO11 HO12 HO13 HC4 HC5 HC6 HC8 HC11 g11 g10 g9 g8 g7 g6 g5 g4 hb5 hb5' hb6 hb6' hb7 hb8 hb9 hb10 hb11 hb12 hb13 hb49 hb410 hb411 hb68 hb69 hb4 HR HR2
  clear s3 s4 s5 hsz2 hsz3
  go_wp2_with fail
  go_loopw [23] (fun i wr => ∃ (k : Nat) (L : List ByteArray), k ≤ np.length ∧ i = .int .i64 k ∧ L.length = np.length ∧ Hid (Kd.R Kd.string 9 wr w.heap.size (fun k => w6.heap.size ≤ k ∧ k < w7.heap.size) (.slice A7 np.length c7) L) ∧ Hid (Off (fun k => w6.heap.size ≤ k ∧ k < w7.heap.size) w13 wr) ∧ Below w.heap.size w wr) (fun i _ => np.length - (RowKit.intOf i).toNat)
  case atStart => exact ⟨0, np, by omega, rfl, rfl, HA, Lib.hid (off_refl _ _), HW.out⟩
  case round =>
    clear HA
    obtain ⟨k, La, hk, rfl, hLa, HA, HOf, hb⟩ := hrel
    by_cases hlt : k < np.length
    · obtain ⟨g, hA, hok, hge, hcell, hfr, hput⟩ := own_write HA.out k hlt
      subst hA
      have HP := Lib.hid hput
      have HK := Lib.hid hok
      clear hput hok
      generalize La.getD k ByteArray.empty = old at *
      have g1 : (k : Int) < (np.length : Int) := by omega
      go_wp2_with fail
      go_roundw
      case rel => exact ⟨k + 1, La.set k qm, by omega, by go_num, by rw [List.length_set]; exact hLa, Lib.hid (HP.out qm), Lib.hid (off_set HOf.out (p := ⟨g, k, none⟩) (.inl HK.out) _), hb.setCell (p := ⟨g, k, none⟩) hge _⟩
      case measure => simp [RowKit.intOf]; omega
    · obtain rfl : k = np.length := by omega
      clear hlt
      have HX2 := Lib.hid (off_R HX.out HOf.out (fun j hj => by omega))
      have HS2 := Lib.hid (off_S HS.out HOf.out (fun j hj => by omega))
      have HOf2 : Hid (Off (fun k => (w6.heap.size ≤ k ∧ k < w7.heap.size) ∨ (w8.heap.size ≤ k ∧ k < w10.heap.size)) w13 wr) := Lib.hid (off_trans HOf.out (off_refl (fun _ => False) _) (fun k hk => .inl hk) (fun k _ hk => hk.elim))
      clear HX HS HOf
      go_wp2_with fail
      go_loopw [24] (fun i wr => ∃ (k : Nat) (L : List ByteArray), k ≤ pd.length ∧ i = .int .i64 k ∧ L.length = pd.length ∧ Hid (Kd.R Kd.string 9 wr w.heap.size (fun k => w8.heap.size ≤ k ∧ k < w9.heap.size) (.slice A9 pd.length c9) L)
        ∧ Hid (Kd.R Kd.string 9 wr w.heap.size (fun k => w6.heap.size ≤ k ∧ k < w7.heap.size) (.slice A7 np.length c7) La) ∧ Hid (Kd.S PathK 23 wr w.heap.size (fun k => w9.heap.size ≤ k ∧ k < w10.heap.size) (.slice (some ⟨gc, 0, none⟩) out.length c10) out)
        ∧ Hid (Off (fun k => (w6.heap.size ≤ k ∧ k < w7.heap.size) ∨ (w8.heap.size ≤ k ∧ k < w10.heap.size)) w13 wr) ∧ Below w.heap.size w wr) (fun i _ => pd.length - (RowKit.intOf i).toNat)
      case atStart => exact ⟨0, pd, by omega, rfl, rfl, HX2, HA, HS2, HOf2, hb⟩
      case round =>
        clear HX2 HA HS2 HOf2 hb
        obtain ⟨k, Lx, hk, rfl, hLx, HX, HA, HS, HOf, hb⟩ := hrel
        by_cases hlt : k < pd.length
        · obtain ⟨g, hA, hok, hge, hcell, hfr, hput⟩ := own_write HX.out k hlt
          subst hA
          have HP := Lib.hid hput
          have HA3 := Lib.hid (fun u => Kd.R_far HA.out (p := ⟨g, k, none⟩) (fun j hj e => by simp only at e; omega) u)
          have HS3 := Lib.hid (fun u => Kd.S_far HS.out (p := ⟨g, k, none⟩) (fun j hj e => by simp only at e; omega) u)
          have HO3 := Lib.hid (fun u => off_set HOf.out (p := ⟨g, k, none⟩) (.inl (.inr (by simp only; omega))) u)
          clear hput hok
          generalize Lx.getD k ByteArray.empty = old at *
          have g1 : (k : Int) < (pd.length : Int) := by omega
          go_wp2_with fail
          go_roundw
          case rel => exact ⟨k + 1, Lx.set k qm, by omega, by go_num, by rw [List.length_set]; exact hLx, Lib.hid (HP.out qm), Lib.hid (HA3.out _), Lib.hid (HS3.out _), Lib.hid (HO3.out _), hb.setCell (p := ⟨g, k, none⟩) hge _⟩
          case measure => simp [RowKit.intOf]; omega
        · obtain rfl : k = pd.length := by omega
          clear hlt
          go_wp2_with fail
          go_loopw [25] (fun i wr => ∃ (k : Nat) (M : List (List ByteArray)), k ≤ out.length ∧ i = .int .i64 k ∧ M.length = out.length ∧ Hid (QmTo M k 0) ∧ Hid (LenTo M 2097155) ∧ Hid (Kd.S PathK 23 wr w.heap.size (fun k => w9.heap.size ≤ k ∧ k < w10.heap.size) (.slice (some ⟨gc, 0, none⟩) out.length c10) M)
            ∧ Hid (Kd.R Kd.string 9 wr w.heap.size (fun k => w6.heap.size ≤ k ∧ k < w7.heap.size) (.slice A7 np.length c7) La) ∧ Hid (Kd.R Kd.string 9 wr w.heap.size (fun k => w8.heap.size ≤ k ∧ k < w9.heap.size) (.slice A9 pd.length c9) Lx) ∧ Hid (Off (fun k => (w6.heap.size ≤ k ∧ k < w7.heap.size) ∨ (w8.heap.size ≤ k ∧ k < w10.heap.size)) w13 wr) ∧ Below w.heap.size w wr) (fun i _ => out.length - (RowKit.intOf i).toNat)
          case atStart => exact ⟨0, out, by omega, rfl, rfl, Lib.hid (qm_start out), HOL, HS, HA, HX, HOf, hb⟩
          case round =>
            clear HS HA HX HOf hb
            obtain ⟨i, M, hi, rfl, hM, HQ, HLN, HS, HA, HX, HOf, hb⟩ := hrel
            by_cases hlt : i < out.length
            · obtain ⟨m, hm⟩ : ∃ m, (M.getD i []).length = m := ⟨_, rfl⟩
              have hmB : m ≤ 2097155 := by rw [← hm]; exact HLN.out i
              have HQ2 : Hid (QmTo M i 0) := HQ
              have g1 : (i : Int) < (out.length : Int) := by omega
              go_wp2_with fail
              go_loopw [26] (fun j wr => ∃ (t : Nat) (M : List (List ByteArray)), t ≤ m ∧ j = .int .i64 t ∧ M.length = out.length ∧ (M.getD i []).length = m ∧ Hid (QmTo M i t) ∧ Hid (LenTo M 2097155) ∧ Hid (Kd.S PathK 23 wr w.heap.size (fun k => w9.heap.size ≤ k ∧ k < w10.heap.size) (.slice (some ⟨gc, 0, none⟩) out.length c10) M)
                ∧ Hid (Kd.R Kd.string 9 wr w.heap.size (fun k => w6.heap.size ≤ k ∧ k < w7.heap.size) (.slice A7 np.length c7) La) ∧ Hid (Kd.R Kd.string 9 wr w.heap.size (fun k => w8.heap.size ≤ k ∧ k < w9.heap.size) (.slice A9 pd.length c9) Lx) ∧ Hid (Off (fun k => (w6.heap.size ≤ k ∧ k < w7.heap.size) ∨ (w8.heap.size ≤ k ∧ k < w10.heap.size)) w13 wr) ∧ Below w.heap.size w wr) (fun j _ => m - (RowKit.intOf j).toNat)
              case atStart => exact ⟨0, M, by omega, rfl, hM, hm, HQ2, HLN, HS, HA, HX, HOf, hb⟩
              case round =>
                clear HS HA HX HOf hb HQ HQ2 HLN hM hm
                obtain ⟨t, M, ht, rfl, hM, hm, HQ, HLN, HS, HA, HX, HOf, hb⟩ := hrel
                obtain ⟨g, A', c', hgg, hge, hgo, hcell, hc', hC', hrest⟩ := path_write HS.out i hlt
                obtain rfl : gc = g := by injection hgg with h; injection h
                rw [hm] at hcell hc' hrest
                clear hC' hgg
                have hQn := Lib.hid (fun h => qm_next HQ.out h)
                have hQs := Lib.hid (qm_step (by omega) HQ.out)
                have hLs := Lib.hid (len_step (i := i) (k := t) HLN.out qm)
                have hms : ((M.set i ((M.getD i []).set t qm)).getD i []).length = m := by
                  simp only [List.getD, List.getElem?_set_self (show i < M.length by omega), Option.getD_some, List.length_set]
                  exact hm
                have HMS := Lib.hid hms
                have HRE := Lib.hid hrest
                have HMM := Lib.hid hm
                clear hms hrest hm HQ
                by_cases hlt2 : t < m
                · obtain ⟨g', hA', hok', hge', hcell', hfr', hput⟩ := HRE.out t hlt2
                  subst hA'
                  have HP := Lib.hid hput
                  have HA3 := Lib.hid (fun u => Kd.R_far HA.out (p := ⟨g', t, none⟩) (fun j hj e => by simp only at e; omega) u)
                  have HX3 := Lib.hid (fun u => Kd.R_far HX.out (p := ⟨g', t, none⟩) (fun j hj e => by simp only at e; omega) u)
                  have HO3 := Lib.hid (fun u => off_set HOf.out (p := ⟨g', t, none⟩) (.inl (.inr (by simp only; omega))) u)
                  clear hput hok' HRE HA HX HOf
                  generalize (M.getD i []).getD t ByteArray.empty = old at *
                  have g2 : (t : Int) < (m : Int) := by omega
                  go_wp2_with fail
                  go_roundw
                  case rel => exact ⟨t + 1, _, by omega, by go_num, by rw [List.length_set]; exact hM, HMS.out, hQs, hLs, Lib.hid (HP.out qm), Lib.hid (HA3.out _), Lib.hid (HX3.out _), Lib.hid (HO3.out _), hb.setCell (p := ⟨g', t, none⟩) hge' _⟩
                  case measure => simp [RowKit.intOf]; omega
                · obtain rfl : t = m := by omega
                  have hQ2 := Lib.hid (hQn.out (by rw [HMM.out]; exact Nat.le_refl _))
                  clear hlt2 HRE hQs hLs HMS hQn
                  go_wp2_with fail
                  go_roundw
                  case rel => exact ⟨i + 1, M, by omega, by go_num, hM, hQ2, HLN, HS, HA, HX, HOf, hb⟩
                  case measure => simp [RowKit.intOf]; omega
            · obtain rfl : i = out.length := by omega
              clear hlt
              have HMo := Lib.hid (more_start hM HQ.out HLN.out (by omega))
              clear HQ HLN
              have hOsz := HOf.out.1
              have hbs := hb.size
              go_wp2_with (first
                | (
                    at_builtin
                    refine Kd.R_append Kd.string (w0 := w) w.heap.size rfl (.tmp 124) (.tmp 125) 23 9 (.string ⟨#[]⟩) 16 rfl Tryd.underlying23 info_str rfl (by decide) (by decide) _ La moreS [.string moreS] (fun k => (w6.heap.size ≤ k ∧ k < w7.heap.size) ∨ w13.heap.size ≤ k) (fun _ => False) rfl rfl ?aP ?aK ?aF ?aO ?aB ?aS ?aL ?_
                    (case aP => exact rfl)
                    (case aK => exact fun j hj => hj.elim)
                    (case aF => exact fun j hj => .inr (by omega))
                    (case aO => exact Kd.R_mono HA.out (fun j hj => .inl hj))
                    (case aB => exact hb)
                    (case aS => exact hbs)
                    (case aL => omega)
                    intro va wa hoa hba hga hata
                    have HA2 := Lib.hid (Kd.R_mono (Kd.R_bound hoa) (ok' := (fun k => (w6.heap.size ≤ k ∧ k < w7.heap.size) ∨ (w13.heap.size ≤ k ∧ k < wa.heap.size))) fun j hj => by rcases hj.1 with h | h; exact .inl h; exact .inr ⟨h, hj.2.2.1⟩)
                    have hrow := HA.out.1
                    have HX2 := Lib.hid (Kd.R_grown HX.out hga (fun j hj e => by have := hrow j e.symm; omega))
                    have HS2 := Lib.hid (Kd.S_grown HS.out hga (fun j hj e => by have := hrow j e.symm; omega))
                    have HO2 := Lib.hid (off_grown HOf.out hga (fun j hj => .inl (.inl (hrow j hj))))
                    obtain ⟨Aa, ca, rfl, hca, hCa⟩ := Kd.R_reads hoa
                    have hla : (La ++ [moreS]).length = np.length + 1 := by simp [hLa]
                    rw [hla] at HA2 ⊢
                    have hga2 := hga.size
                    have hbas := hba.size
                    clear hoa hga hata hCa HA HX HS HOf hrow hb hbs hca hla)
                | (
                    at_builtin
                    refine Kd.R_append Kd.string (w0 := w) w.heap.size rfl (.tmp 127) (.tmp 128) 23 9 (.string ⟨#[]⟩) 16 rfl Tryd.underlying23 info_str rfl (by decide) (by decide) _ Lx moreS [.string moreS] (fun k => (w8.heap.size ≤ k ∧ k < w9.heap.size) ∨ wa.heap.size ≤ k) (fun _ => False) rfl rfl ?aP ?aK ?aF ?aO ?aB ?aS ?aL ?_
                    (case aP => exact rfl)
                    (case aK => exact fun j hj => hj.elim)
                    (case aF => exact fun j hj => .inr hj)
                    (case aO => exact Kd.R_mono HX2.out (fun j hj => .inl hj))
                    (case aB => exact hba)
                    (case aS => exact hbas)
                    (case aL => omega)
                    intro vx wx hox hbx hgx hatx
                    have HX3 := Lib.hid (Kd.R_mono (Kd.R_bound hox) (ok' := (fun k => (w8.heap.size ≤ k ∧ k < w9.heap.size) ∨ (wa.heap.size ≤ k ∧ k < wx.heap.size))) fun j hj => by rcases hj.1 with h | h; exact .inl h; exact .inr ⟨h, hj.2.2.1⟩)
                    have hrow := HX2.out.1
                    have HA3 := Lib.hid (Kd.R_grown HA2.out hgx (fun j hj e => by have := hrow j e.symm; omega))
                    have HS3 := Lib.hid (Kd.S_mono (Kd.S_grown HS2.out hgx (fun j hj e => by have := hrow j e.symm; omega)) (ok' := (fun k => (w9.heap.size ≤ k ∧ k < w10.heap.size) ∨ wx.heap.size ≤ k)) fun j hj => .inl hj)
                    have HO3 := Lib.hid (off_grown HO2.out hgx (fun j hj => .inl (.inr (by have := hrow j hj; omega))))
                    obtain ⟨Ax, cx, rfl, hcx, hCx⟩ := Kd.R_reads hox
                    have hlx : (Lx ++ [moreS]).length = pd.length + 1 := by simp [hLx]
                    rw [hlx] at HX3 ⊢
                    have hgx2 := hgx.size
                    clear hox hgx hatx hCx HA2 HX2 HS2 HO2 hrow hba hcx hlx))
              go_loopw [27] (fun i wr => ∃ (k : Nat) (M : List (List ByteArray)), k ≤ out.length ∧ i = .int .i64 k ∧ M.length = out.length ∧ Hid (MoreTo M k) ∧ Hid (Kd.S PathK 23 wr w.heap.size (fun k => (w9.heap.size ≤ k ∧ k < w10.heap.size) ∨ wx.heap.size ≤ k) (.slice (some ⟨gc, 0, none⟩) out.length c10) M)
                ∧ Hid (Kd.R Kd.string 9 wr w.heap.size (fun k => (w6.heap.size ≤ k ∧ k < w7.heap.size) ∨ (w13.heap.size ≤ k ∧ k < wa.heap.size)) (.slice Aa (np.length + 1) ca) (La ++ [moreS])) ∧ Hid (Kd.R Kd.string 9 wr w.heap.size (fun k => (w8.heap.size ≤ k ∧ k < w9.heap.size) ∨ (wa.heap.size ≤ k ∧ k < wx.heap.size)) (.slice Ax (pd.length + 1) cx) (Lx ++ [moreS])) ∧ Hid (Off (fun k => (w6.heap.size ≤ k ∧ k < w7.heap.size) ∨ (w8.heap.size ≤ k ∧ k < w10.heap.size)) w13 wr) ∧ wx.heap.size ≤ wr.heap.size ∧ Below w.heap.size w wr) (fun i _ => out.length - (RowKit.intOf i).toNat)
              case atStart => exact ⟨0, M, by omega, rfl, hM, HMo, HS3, HA3, HX3, HO3, Nat.le_refl _, hbx⟩
              case round =>
                clear HS3 HA3 HX3 HO3 HMo hM
                obtain ⟨i, M, hi, rfl, hM, HMo, HS, HA, HX, HOf, hxs, hb⟩ := hrel
                have hbs := hb.size
                by_cases hlt : i < out.length
                · obtain ⟨g, u, oki, hgg, hge, hgo, hglt, hcell, hfr, hRu, hoki, hback⟩ := path_grow HS.out i hlt
                  obtain rfl : gc = g := by injection hgg with h; injection h
                  obtain ⟨A', c', rfl, hc', hC'⟩ := Kd.R_reads hRu
                  obtain ⟨m, hmr, hmB⟩ := HMo.out.2 i (Nat.le_refl _) (by omega)
                  have hml : (M.getD i []).length = m := by rw [hmr, List.length_replicate]
                  have hms := Lib.hid (more_step (by omega) HMo.out)
                  have hqB : (M.getD i []).length ≤ 4194304 := by rw [hml]; exact hmB
                  clear hmr HMo hC' hml hmB
                  generalize M.getD i [] = q at *
                  have hRu1 := Lib.hid (Kd.R_mono (Kd.R_alloc hRu (.cells #[.string moreS, .string moreS] 9)) (ok' := fun k => oki k ∨ wr.heap.size ≤ k) (fun j hj => .inl hj))
                  have HUR := Lib.hid hRu.1
                  have HBK := Lib.hid hback
                  have HOK := Lib.hid hoki
                  have hba1 := Lib.hid (hb.alloc hbs (.cells #[.string moreS, .string moreS] 9))
                  have hCB := Lib.hid (C_of_box (W := wr.alloc (.cells #[.string moreS, .string moreS] 9)) (g := wr.heap.size) (cells := #[.string moreS, .string moreS]) (l := [moreS, moreS]) (blk_new wr _) rfl (by decide))
                  have HC1 := Lib.hid (((below_alloc (Below.refl wr.heap.size wr) (.cells #[.string moreS, .string moreS] 9)).cell (p := ⟨gc, i, none⟩) hglt).trans hcell)
                  have HF1 := Lib.hid (((below_alloc (Below.refl wr.heap.size wr) (.cells #[.string moreS, .string moreS] 9)).frozen (p := ⟨gc, i, none⟩) hglt).trans hfr)
                  have hwa : wr.heap.size ≤ (wr.alloc (.cells #[.string moreS, .string moreS] 9)).heap.size := by simp
                  have HWA := Lib.hid hwa
                  clear hRu hoki hback hfr hwa
                  have g1 : (i : Int) < (out.length : Int) := by omega
                  go_wp2_with (
                      at_builtin
                      refine Kd.R_append_row Value.string ByteArray.empty (h1 := fun _ => rfl) (w0 := w) w.heap.size rfl (.tmp 141) (.tmp 142) 23 9 (.string ⟨#[]⟩) 16 rfl Tryd.underlying23 info_str rfl (by decide) _ q [moreS, moreS] (some ⟨wr.heap.size, 0, none⟩) 2 2 (fun k => oki k ∨ wr.heap.size ≤ k) rfl rfl ?aF ?aO ?aR ?aB ?aS ?aL ?_
                      (case aF => exact fun j hj => .inr (Nat.le_trans HWA.out hj))
                      (case aO => exact hRu1.out)
                      (case aR => exact hCB.out)
                      (case aB => exact hba1.out)
                      (case aS => exact hba1.out.size)
                      (case aL => omega)
                      intro u1 w1 hu1 hb1 hg1 hat1
                      have hne : some gc ≠ (Value.slice A' q.length c').ownBlock := fun e => (HOK.out gc (HUR.out gc e.symm)).2 rfl
                      have hcell2 := World.grownBy.cell hg1 HC1.out hne
                      have hfr2 := (World.grownBy.frozen_far hg1 ⟨gc, i, none⟩ (Nat.lt_of_lt_of_le hglt HWA.out) hne).trans HF1.out
                      have HA4 := Lib.hid (fun v => Kd.R_far (Kd.R_grown (Kd.R_alloc HA.out _) hg1 (fun j hj e => by have := (HOK.out j (HUR.out j e.symm)).1; omega)) (p := ⟨gc, i, none⟩) (fun j hj e => by simp only at e; omega) v)
                      have HX4 := Lib.hid (fun v => Kd.R_far (Kd.R_grown (Kd.R_alloc HX.out _) hg1 (fun j hj e => by have := (HOK.out j (HUR.out j e.symm)).1; omega)) (p := ⟨gc, i, none⟩) (fun j hj e => by simp only at e; omega) v)
                      have HO4 := Lib.hid (fun v => off_set (off_grown (off_below HOf.out (below_alloc (Below.refl _ _) _)) hg1 (fun j hj => by have := (HOK.out j (HUR.out j hj)).1; omega)) (p := ⟨gc, i, none⟩) (by simp only; omega) v)
                      have HS4 := Lib.hid (fun v x h => HBK.out _ _ v x (below_alloc (Below.refl _ _) _) hg1 h (fun j hj => .inr (by omega)))
                      obtain ⟨A1, c1, rfl, hc1, hC1⟩ := Kd.R_reads hu1
                      rw [show (q ++ [moreS, moreS]).length = q.length + 2 by simp] at hu1 ⊢
                      have HU1 := Lib.hid hu1
                      have hg1s := hg1.size
                      have hw1s : wx.heap.size ≤ w1.heap.size := Nat.le_trans hxs (Nat.le_trans HWA.out hg1s)
                      clear hu1 hC1 hat1 hg1 HA HX HOf HS HBK HOK HUR HC1 HF1 hCB hRu1 hba1 hcell hg1s HWA)
                  go_roundw
                  case rel => exact ⟨i + 1, _, by omega, by go_num, by rw [List.length_set]; exact hM, hms, Lib.hid (HS4.out _ _ HU1.out), Lib.hid (HA4.out _), Lib.hid (HX4.out _), Lib.hid (HO4.out _), by simpa [World.setCell] using hw1s, hb1.setCell (p := ⟨gc, i, none⟩) hge _⟩
                  case measure => simp [RowKit.intOf]; omega
                · obtain rfl : i = out.length := by omega
                  clear hlt
                  have HCC := Lib.hid (Kd.S_reads' HS.out).2.2
                  clear HS
                  go_wp2_with fail
                  go_loopw [28] (fun i wr' => ∃ k : Nat, k ≤ out.length ∧ i = .int .i64 k ∧ wr' = wr) (fun i _ => out.length - (RowKit.intOf i).toNat)
                  case atStart => exact ⟨0, by omega, rfl, rfl⟩
                  case round =>
                    obtain ⟨i, hi, rfl, rfl⟩ := hrel
                    by_cases hlt : i < out.length
                    · obtain ⟨ad, A', c', hA', hx, hc', hC'⟩ := path_at HCC.out i (by omega)
                      injection hA' with hA'
                      subst hA'
                      obtain ⟨m, hm, hmB⟩ := HMo.out.1 i hlt (by omega)
                      have hgi : M[i]'(by omega) = List.replicate m qm ++ [moreS, moreS] := by rw [← hm]; simp [List.getD, show i < M.length by omega]
                      clear hm
                      generalize M[i]'(by omega) = q at *
                      have hql : q.length = m + 2 := by rw [hgi]; simp
                      rw [add_zero_block, hql] at hx
                      rw [hql] at hC' hc'
                      have e1 : rdOf ByteArray.empty q ((m + 1 : Nat) : Int) = moreS := by rw [hgi]; simp [rdOf, List.getElem_append_right]
                      have e2 : rdOf ByteArray.empty q ((m : Nat) : Int) = moreS := by rw [hgi]; simp [rdOf, List.getElem_append_right]
                      have e3 : ∀ k : Nat, k < m → rdOf ByteArray.empty q (k : Int) = qm := by
                        intro k hk
                        rw [hgi]
                        simp [rdOf, List.getElem_append_left, hk, show k < m + 2 by omega]
                      obtain ⟨ad', hA', hy1⟩ := Kd.at_string hC' ((m + 1 : Nat) : Int) (by omega) (by omega)
                      subst hA'
                      obtain ⟨ad2, hA2, hy2⟩ := Kd.at_string hC' ((m : Nat) : Int) (by omega) (by omega)
                      injection hA2 with hA2
                      subst hA2
                      rw [e1, Int.toNat_natCast] at hy1
                      rw [e2, Int.toNat_natCast] at hy2
                      have HC' := Lib.hid hC'
                      have HE3 := Lib.hid e3
                      clear hC' e1 e2 e3 hgi hql
                      obtain ⟨m1, hm1⟩ : ∃ m1, m1 = m + 1 := ⟨_, rfl⟩
                      have hx2 : wr.cell? ⟨gc, i, none⟩ = some (.slice (some ad') (m1 + 1) c') := by rw [hm1]; exact hx
                      have hc2 : m1 + 1 ≤ c' := by omega
                      have hy3 : wr.cell? (ad'.add m1) = some (.string ⟨#[109, 111, 114, 101]⟩) := by rw [hm1]; exact hy1
                      have hy4 : wr.cell? (ad'.add m) = some (.string ⟨#[109, 111, 114, 101]⟩) := hy2
                      have hw2 : IntKind.i64.wrap ((m1 : Int) + 1 - 2) = (m : Int) := by rw [IntWalk.i64_in _ (by omega)]; omega
                      have hw3 : IntKind.i64.wrap (m : Int) = (m : Int) := IntWalk.i64_in _ (by omega)
                      have hw4 : (m1 : Int) + 1 - 2 = (m : Int) := by omega
                      have g2 : (0 : Int) ≤ (m : Int) := by omega
                      have g3 : ¬ (m1 : Int) + 1 < 2 := by omega
                      have g4 : decide ((m1 : Int) + 1 < 2) = false := decide_eq_false g3
                      have g5 : (m : Int) < (m1 : Int) + 1 := by omega
                      have g6 : m < m1 + 1 := by omega
                      have HM1 := Lib.hid hm1
                      have hm2 : m1 ≤ 4194305 := by omega
                      clear hx hc' hy1 hy2 hm1
                      have g1 : (i : Int) < (out.length : Int) := by omega
                      go_wp2_with fail
                      go_loopw [30] (fun j wr' => ∃ k : Nat, k ≤ m ∧ j = .int .i64 k ∧ wr' = wr) (fun j _ => m - (RowKit.intOf j).toNat)
                      case atStart => exact ⟨0, by omega, rfl, rfl⟩
                      case round =>
                        clear hy3 hy4
                        obtain ⟨k, hk, rfl, rfl⟩ := hrel
                        by_cases hlt2 : k < m
                        · obtain ⟨ad2, hA2, hy⟩ := Kd.at_string HC'.out (k : Int) (by omega) (by omega)
                          injection hA2 with hA2
                          subst hA2
                          rw [HE3.out k hlt2, Int.toNat_natCast] at hy
                          have hy5 : wr.cell? (ad'.add k) = some (.string ⟨#[63]⟩) := hy
                          clear hy
                          have l1 : (k : Int) < (m : Int) := by omega
                          have l2 : (k : Int) < (m1 : Int) + 1 := by omega
                          have l3 : k < m1 + 1 := by omega
                          go_wp2_with fail
                          go_roundw
                          case rel => exact ⟨k + 1, by omega, by go_num, by first | rfl | trivial⟩
                          case measure => simp [RowKit.intOf]; omega
                        · obtain rfl : k = m := by omega
                          clear hlt2
                          go_wp2_with fail
                          go_roundw
                          case rel => exact ⟨i + 1, by omega, by go_num, by first | rfl | trivial⟩
                          case measure => simp [RowKit.intOf]; omega
                    · obtain rfl : i = out.length := by omega
                      clear hlt HMo HCC
                      obtain ⟨C8, C12, C11, C13, C4, C5, C6, CA⟩ := HF.out wr HOf.out hb
                      have dr : ∀ n, Below wr.heap.size wr (wr.drewN n) := fun n => bdrewN (Below.refl _ _) n
                      have HS1 := Lib.hid ((rsame_calls A8 c8 np A12 c12 np wr C8 hc8 C12 hc12 (by omega)).mono (R' := fun e w'' => e = .returned (.bool true) ∧ ∃ k, w'' = wr.drewN k) fun e w'' ⟨he, k, hw⟩ => ⟨by rw [he, show sameB np np = true by simp [sameB]], k, hw⟩)
                      have HS2 := Lib.hid (fun n => (ralike_calls A11 c11 out A13 c13 out (wr.drewN n) (Kd.C_below C11 (dr n)) hc11 (by omega) (Kd.C_below C13 (dr n)) hc13 (by omega)).mono (R' := fun e w'' => e = .returned (.bool true) ∧ ∃ k, w'' = wr.drewN k) fun e w'' ⟨he, k, hw⟩ => ⟨by rw [he, decide_eq_true rfl], n + k, by rw [hw, World.drewN_drewN]⟩)
                      have HS3 := Lib.hid (fun n => (rsame_calls A6 c6 p A c p (wr.drewN n) (Kd.C_below C6 (dr n)) hc6 (Kd.C_below CA (dr n)) hc (by omega)).mono (R' := fun e w'' => e = .returned (.bool true) ∧ ∃ k, w'' = wr.drewN k) fun e w'' ⟨he, k, hw⟩ => ⟨by rw [he, show sameB p p = true by simp [sameB]], n + k, by rw [hw, World.drewN_drewN]⟩)
                      have HS4 := Lib.hid (fun n => (ralike_calls A4 c4 all A5 c5 all (wr.drewN n) (Kd.C_below C4 (dr n)) hc4 (by omega) (Kd.C_below C5 (dr n)) hc5 (by omega)).mono (R' := fun e w'' => e = .returned (.bool true) ∧ ∃ k, w'' = wr.drewN k) fun e w'' ⟨he, k, hw⟩ => ⟨by rw [he, decide_eq_true rfl], n + k, by rw [hw, World.drewN_drewN]⟩)
                      clear C8 C12 C11 C13 C4 C5 C6 CA dr HF HOf
                      go_wp2_with fail
                      refine HS1.out.mono ?_
                      rintro e w1 ⟨rfl, n1, rfl⟩
                      go_wp2_with fail
                      refine (HS2.out _).mono ?_
                      rintro e w1 ⟨rfl, n2, rfl⟩
                      go_wp2_with fail
                      refine (HS3.out _).mono ?_
                      rintro e w1 ⟨rfl, n3, rfl⟩
                      go_wp2_with fail
                      refine (HS4.out _).mono ?_
                      rintro e w1 ⟨rfl, n4, rfl⟩
                      obtain ⟨ga, rfl, _, _, hca, _⟩ := own_write (Kd.R_drewN HA.out n4) np.length (by omega)
                      obtain ⟨gx, rfl, _, _, hcx, _⟩ := own_write (Kd.R_drewN HX.out n4) pd.length (by omega)
                      have e1 : (La ++ [moreS]).getD np.length ByteArray.empty = (⟨#[109, 111, 114, 101]⟩ : ByteArray) := by rw [← hLa]; simp [List.getD]; rfl
                      have e2 : (Lx ++ [moreS]).getD pd.length ByteArray.empty = (⟨#[109, 111, 114, 101]⟩ : ByteArray) := by rw [← hLx]; simp [List.getD]; rfl
                      rw [e1] at hca
                      rw [e2] at hcx
                      have hbz := bdrewN hb n4
                      have h10 : np.length ≤ 9223372036854775000 := by omega
                      clear e1 e2 HA HX HS1 HS2 HS3 HS4 hb
                      generalize wr.drewN n4 = wz at *
                      go_wp2_with fail
                      go_ret
                      exact ⟨rfl, hbz⟩
end Go.Proofs.YtdhchmonmbppmaaDoor.G
