/- trees.right, paddockref03.Right. -/
import Derived.Test.YtdnhjnlhmfajnaaDoorTCheck
namespace Go.Proofs.YtdnhjnlhmfajnaaDoor.G
open Go.RowKit Go.Lib Go.Proofs.YtdnhjnlhmfajnaaDoorW.PrintWords Go.Proofs.YtdnhjnlhmfajnaaDoorW.PrintLast
set_option linter.unusedVariables false

def rightT (f : File) : Bool := (checkR f).1 == 0

set_option maxHeartbeats 4000000 in
theorem right_calls (f : File) (A : Option Addr) (c : Nat) (w : World) (hbk : f.bulk ≤ 1099511627776) (hr : FileK.C w A f.files.length f.files) (hc : f.files.length ≤ c) :
    Calls Tryd.prog 28 #[fileV f A c] w fun e w' => e = .returned (.bool (rightT f)) ∧ Below w.heap.size w w' := by
  have HB := Lib.hid ((Below.refl w.heap.size w).alloc (Nat.le_refl _) (.cells #[.string f.name, .int .u8 f.kind, .string f.data, .slice A f.files.length c] 25))
  have HW := Lib.hid (check_calls f A c _ hbk (Kd.C_below hr HB.out) hc)
  have HS := Lib.hid (show (w.alloc (.cells #[.string f.name, .int .u8 f.kind, .string f.data, .slice A f.files.length c] 25)).heap.size = w.heap.size + 1 by simp)
  unfold rightT
  generalize checkR f = cr at *
  clear hr hbk
  go_enter Tryd.func28, Tryd.ntmps28
  unfold fileV
  go_wp2_with fail
  refine HW.out.mono ?_
  rintro e w1 ⟨v, rfl, ho, hb⟩
  have hb2 := HB.out.trans (hb.mono (by rw [HS.out]; omega))
  obtain ⟨A1, c1, rfl, hc1, hC1⟩ := Kd.R_reads ho
  clear ho hC1 hb HW
  go_wp2_with fail
  go_ret
  exact ⟨rfl, hb2⟩

set_option maxHeartbeats 4000000 in
theorem rright_calls (f : File) (A : Option Addr) (c : Nat) (w : World) (hbk : f.bulk ≤ 1099511627776) (hr : FileK.C w A f.files.length f.files) (hc : f.files.length ≤ c) :
    Calls Tryd.prog 45 #[fileV f A c] w fun e w' => e = .returned (.bool (rightT f)) ∧ Below w.heap.size w w' := by
  have HB := Lib.hid ((Below.refl w.heap.size w).alloc (Nat.le_refl _) (.cells #[.string f.name, .int .u8 f.kind, .string f.data, .slice A f.files.length c] 25))
  have HW := Lib.hid (rcheck_calls f A c _ hbk (Kd.C_below hr HB.out) hc)
  have HS := Lib.hid (show (w.alloc (.cells #[.string f.name, .int .u8 f.kind, .string f.data, .slice A f.files.length c] 25)).heap.size = w.heap.size + 1 by simp)
  unfold rightT
  generalize checkR f = cr at *
  clear hr hbk
  go_enter Tryd.func45, Tryd.ntmps45
  unfold fileV
  go_wp2_with fail
  refine HW.out.mono ?_
  rintro e w1 ⟨v, rfl, ho, hb⟩
  have hb2 := HB.out.trans (hb.mono (by rw [HS.out]; omega))
  obtain ⟨A1, c1, rfl, hc1, hC1⟩ := Kd.R_reads ho
  clear ho hC1 hb HW
  go_wp2_with fail
  go_ret
  exact ⟨rfl, hb2⟩
end Go.Proofs.YtdnhjnlhmfajnaaDoor.G
