/- strings.Builder: WriteString and WriteByte at this dump (the shelf lays String alone). -/
import Derived.Test.YtdnhjnlhmfajnaaDoorTBelow
import Derived.Lib.AppendStr
import Derived.Lib.Builder
import Derived.Handy
namespace Go.Proofs.YtdnhjnlhmfajnaaDoor.G
open Go.RowKit Go.Lib Go.Proofs.YtdnhjnlhmfajnaaDoorW.PrintWords Go.Proofs.YtdnhjnlhmfajnaaDoorW.PrintLast
set_option linter.unusedVariables false

/-- A builder that holds these bytes, fresh or used. -/
def Built (B b : Nat) (l : List UInt8) (w : World) : Prop := Lib.IsBuilder 56 5 B b (Lib.byteCells l) w
def Used (B b : Nat) (bs : List Value) (w : World) : Prop := Lib.BuilderAt 56 5 B b (.pointer (some ⟨b, 0, none⟩)) bs w
set_option maxHeartbeats 4000000 in
set_option maxRecDepth 100000 in
theorem copyCheck_calls (B b : Nat) (bs : List Value) (w : World) (h : Lib.IsBuilder 56 5 B b bs w) :
    Calls Tryd.prog 57 #[.pointer (some ⟨b, 0, none⟩)] w fun e w' => e = .returned (.tuple #[]) ∧ Used B b bs w' ∧ Below B w w' := by
  obtain ⟨j, hj, hjs⟩ := Option.map_eq_some_iff.1 (show (Tryd.prog.info? 56).map (·.size) = some 2 by kernel_rfl)
  rcases h with ⟨hB, v, hb, ho, hne⟩ | ⟨hB, v, hb, ho, hne⟩
  · have c0 : w.cell? ⟨b, 0, none⟩ = some (.pointer none) := by simp [World.cell?, hb]
    have f0 : w.frozen? ⟨b, 0, none⟩ = false := by simp [World.frozen?, hb]
    have hsh : w.shape? b = some (56, 2) := by simp [World.shape?, hb]
    have HSH := Lib.hid hsh
    have HU : Hid (Used B b bs (w.setCell ⟨b, 0, none⟩ (.pointer (some ⟨b, 0, none⟩)))) := Lib.hid ⟨hB, v, by simpa using blk_put (cs := #[.pointer none, v]) hb 0 (.pointer (some ⟨b, 0, none⟩)) rfl, own_setCell ho (fun e => hne e.symm) _, hne⟩
    have HB := Lib.hid ((Below.refl B w).setCell (p := ⟨b, 0, none⟩) hB (.pointer (some ⟨b, 0, none⟩)))
    clear ho hb hsh
    go_enter Tryd.func57, Tryd.ntmps57
    go_wp2
    rw [Lib.run_to_unsafe (w := w) ⟨b, 0, none⟩ Tryd.underlying53 Tryd.underlying112 hj (by rw [hjs]; decide) HSH.out (Nat.zero_lt_succ 1)]
    simp only [Result.andThen]
    rw [Oper.upon_value]
    go_wp2
    rw [run_callFunc_extern Tryd.func78 (by kernel_rfl) (by kernel_rfl) (by kernel_rfl) (e := Extern.AbiNoEscape.same) (by kernel_rfl), Lib.run_noEscape]
    simp only [Result.andThen]
    rw [Oper.upon_value]
    go_wp2
    rw [Lib.run_from_unsafe (w := w) ⟨b, 0, none⟩ Tryd.underlying112 Tryd.underlying53 hj HSH.out (by kernel_rfl)]
    simp only [Result.andThen]
    rw [Oper.upon_value]
    go_wp2
    go_end0
    exact ⟨rfl, HU.out, HB.out⟩
  · have c0 : w.cell? ⟨b, 0, none⟩ = some (.pointer (some ⟨b, 0, none⟩)) := by simp [World.cell?, hb]
    have HU : Hid (Used B b bs w) := Lib.hid ⟨hB, v, hb, ho, hne⟩
    clear ho hb
    go_enter Tryd.func57, Tryd.ntmps57
    go_wp2
    rw [Lib.run_neq_ptr_same w _ Tryd.underlying53 hj]
    go_wp2
    go_end0
    exact ⟨rfl, HU.out, Below.refl _ _⟩

theorem info_byte : (Tryd.prog.info? 5).map (fun i => (i.zero, i.size, i.bytes)) = some (some (.int .u8 0), 1, 1) := by kernel_rfl
theorem cells_append (l : List UInt8) (s : ByteArray) : Lib.byteCells l ++ Lib.strCells s = Lib.byteCells (l ++ s.data.toList) := by simp [Lib.byteCells, Lib.strCells]
set_option maxHeartbeats 4000000 in
set_option maxRecDepth 100000 in
theorem writeString_calls (B b : Nat) (l : List UInt8) (s : ByteArray) (w : World) (h : Built B b l w) (hlen : l.length + s.size ≤ 70368744177664) (hBw : B ≤ w.heap.size) :
    Calls Tryd.prog 30 #[.pointer (some ⟨b, 0, none⟩), .string s] w fun e w' => e = .returned (.tuple #[.int .i64 s.size, .nilIface]) ∧ Built B b (l ++ s.data.toList) w' ∧ Below B w w' := by
  obtain ⟨i0, hi, hzz⟩ := Option.map_eq_some_iff.1 info_byte
  simp only [Prod.mk.injEq] at hzz
  obtain ⟨hz0, hz1, hz2⟩ := hzz
  have hbl : (Lib.byteCells l).length = l.length := by simp [Lib.byteCells]
  have HC := Lib.hid (copyCheck_calls B b (Lib.byteCells l) w h)
  clear h
  go_enter Tryd.func30, Tryd.ntmps30
  go_wp2_with fail
  refine HC.out.mono ?_
  rintro e w1 ⟨rfl, ⟨hB, v, hbk, hown, hne⟩, hb1⟩
  rw [hbl] at hown
  have c1 : w1.cell? ⟨b, 1, none⟩ = some v := by simp [World.cell?, hbk]
  have HBK := Lib.hid hbk
  have HB1 := Lib.hid hb1
  have hlt := blk_lt hbk
  have hs1 := hb1.size
  have HOW := Lib.hid hown
  have HNE := Lib.hid hne
  obtain ⟨ao, cp, rfl⟩ := own_slice hown
  clear hbk hb1 hown hne HC hbl
  go_wp2_with (at_builtin; (refine Lib.wpList_append_own_string _ rfl (.tmp 12) (.tmp 13) 54 9 rfl B 5 i0 Tryd.underlying54 Tryd.underlying9 hi hz0 hz1 hz2 _ _ _ rfl HOW.out s rfl (by unfold maxLen; omega) (by omega) (by omega) ?_); intro v2 w2 ho2 hg2 _; have hbk2 := (hg2.block b hlt (fun e => HNE.out e.symm)).trans HBK.out; have hne2 := own_ne ho2 hbk2 (by decide); have HX : Hid (Built B b (l ++ s.data.toList) (w2.setCell ⟨b, 1, none⟩ v2)) := Lib.hid (.inr ⟨hB, v2, by simpa using blk_put hbk2 1 v2 rfl, by rw [← cells_append, List.length_append, Lib.strCells_length, Lib.byteCells_length]; exact own_setCell ho2 hne2 _, fun e => hne2 e.symm⟩); have HY : Hid (Below B w (w2.setCell ⟨b, 1, none⟩ v2)) := Lib.hid ((HB1.out.grown hg2 (by omega) (fun j hj => own_base HOW.out j hj)).setCell (p := ⟨b, 1, none⟩) hB _); have c2 := World.grownBy.cell hg2 c1 (fun e => HNE.out e.symm); have f2 : w2.frozen? ⟨b, 1, none⟩ = false := (by simp [World.frozen?, hbk2]); obtain ⟨a2, cp2, rfl⟩ := own_slice ho2; clear ho2 hg2 hbk2 hne2)
  go_ret2
  exact ⟨rfl, HX.out, HY.out⟩

set_option maxHeartbeats 4000000 in
set_option maxRecDepth 100000 in
theorem writeByte_calls (B b : Nat) (l : List UInt8) (x : UInt8) (w : World) (h : Built B b l w) (hlen : l.length ≤ 70368744177664) (hBw : B ≤ w.heap.size) :
    Calls Tryd.prog 34 #[.pointer (some ⟨b, 0, none⟩), .int .u8 x.toNat] w fun e w' => e = .returned .nilIface ∧ Built B b (l ++ [x]) w' ∧ Below B w w' := by
  have hbl : (Lib.byteCells l).length = l.length := by simp [Lib.byteCells]
  have HC := Lib.hid (copyCheck_calls B b (Lib.byteCells l) w h)
  clear h
  go_enter Tryd.func34, Tryd.ntmps34
  go_wp2_with fail
  refine HC.out.mono ?_
  rintro e w1 ⟨rfl, ⟨hB, v, hbk, hown, hne⟩, hb1⟩
  have c1 : w1.cell? ⟨b, 1, none⟩ = some v := by simp [World.cell?, hbk]
  have HBK := Lib.hid hbk
  have HB1 := Lib.hid hb1
  have hlt := blk_lt hbk
  have hs1 := hb1.size
  have HOW := Lib.hid hown
  have HNE := Lib.hid hne
  obtain ⟨ao, cp, hv⟩ := own_slice hown
  rw [hbl] at hv
  subst hv
  have HBL := Lib.hid hbl
  clear hbk hb1 hown hne HC hbl
  go_wp2_with (at_builtin; refine print_append (w0 := w) B rfl (.tmp 11) (.tmp 13) 54 5 (.int .u8 0) 1 rfl Tryd.underlying54 info_byte rfl (by decide) _ (Lib.byteCells l) (.int .u8 x.toNat) rfl rfl rfl HOW.out HB1.out (by omega) (by rw [HBL.out]; omega) ?_; intro v2 w2 ho2 hb2 hg2 _; have hbk2 := (hg2.block b hlt (fun e => HNE.out e.symm)).trans HBK.out; have hne2 := own_ne ho2 hbk2 (by decide); have HX : Hid (Built B b (l ++ [x]) (w2.setCell ⟨b, 1, none⟩ v2)) := Lib.hid (.inr ⟨hB, v2, by simpa using blk_put hbk2 1 v2 rfl, by rw [Lib.byteCells_append]; exact own_setCell ho2 hne2 _, fun e => hne2 e.symm⟩); have HY : Hid (Below B w (w2.setCell ⟨b, 1, none⟩ v2)) := Lib.hid (hb2.setCell (p := ⟨b, 1, none⟩) hB _); have c2 := World.grownBy.cell hg2 c1 (fun e => HNE.out e.symm); have f2 : w2.frozen? ⟨b, 1, none⟩ = false := (by simp [World.frozen?, hbk2]); obtain ⟨a2, cp2, rfl⟩ := own_slice ho2; have hlq : (Lib.byteCells l ++ [Value.int .u8 x.toNat]).length = l.length + 1 := (by rw [List.length_append, HBL.out]; rfl); rw [hlq] at HX HY ⊢; clear ho2 hg2 hbk2 hne2 hb2 hlq)
  go_ret
  exact ⟨rfl, HX.out, HY.out⟩
theorem built_string (B b : Nat) (l : List UInt8) (w : World) (h : Built B b l w) (hBw : B ≤ w.heap.size) :
    Calls Tryd.prog 35 #[.pointer (some ⟨b, 0, none⟩)] w fun e w' => e = .returned (.string ⟨l.toArray⟩) ∧ Below B w w' := Tryd.Builder_String_any B b l w h hBw
end Go.Proofs.YtdnhjnlhmfajnaaDoor.G
