/- trees.right, paddockref03.Right. -/
import Derived.Test.YthlcjjhfkldmhaaDoorTWrong
set_option linter.unusedVariables false
set_option linter.unusedSimpArgs false
section
namespace Go.Proofs.YthlcjjhfkldmhaaDoor.G
open Go.RowKit Go.Lib Go.Proofs.YthlcjjhfkldmhaaDoorW.PrintWords Go.Proofs.YthlcjjhfkldmhaaDoorW.PrintLast
set_option linter.unusedVariables false

def checkO : Option (List ByteArray) → Int × List ByteArray
  | none => (0, [])
  | some b => (30, b)
def checkR (f : File) : Int × List ByteArray := if f.kind = 1 ∧ f.name.toList.isEmpty = true ∧ f.data.toList.isEmpty = true then checkO (wrongN f.bulk f []) else ((30 : Int), [])

set_option maxHeartbeats 4000000 in
set_option maxRecDepth 100000 in
theorem check_calls (f : File) (A : Option Addr) (c : Nat) (w : World) (hbk : f.bulk ≤ 1099511627776) (hr : FileK.C w A f.files.length f.files) (hc : f.files.length ≤ c) :
    Calls Tryd.prog 33 #[fileV f A c] w fun e w' => ∃ v, e = .returned (.tuple #[.int .i64 (checkR f).1, v]) ∧ Kd.R Kd.string 9 w' w.heap.size (fun _ => True) v (checkR f).2 ∧ Below w.heap.size w w' := by
  have HB := Lib.hid ((Below.refl w.heap.size w).alloc (Nat.le_refl _) (.cells #[.string f.name, .int .u8 f.kind, .string f.data, .slice A f.files.length c] 25))
  have HW := Lib.hid (wrong_calls f.bulk f A c none 0 [] _ (Nat.le_refl _) hbk (by simp only [List.length_nil]; omega) (Kd.C_below hr HB.out) hc (Kd.C_nil Kd.string _) (Nat.le_refl 0))
  have HR : Hid (checkR f = if f.kind = 1 ∧ f.name.toList.isEmpty = true ∧ f.data.toList.isEmpty = true then checkO (wrongN f.bulk f []) else ((30 : Int), [])) := Lib.hid rfl
  generalize wrongN f.bulk f [] = o at *
  generalize checkR f = cr at *
  obtain ⟨fn, fk, fd, fl⟩ := f
  have HS := Lib.hid (show (w.alloc (.cells #[.string fn, .int .u8 fk, .string fd, .slice A fl.length c] 25)).heap.size = w.heap.size + 1 by simp)
  clear hr hbk
  go_enter Tryd.func33, Tryd.ntmps33
  unfold fileV
  by_cases h1 : fk = 1
  · subst h1
    cases h2 : fn.toList.isEmpty
    · have hcr := HR.out
      rw [if_neg (by simp [h2])] at hcr
      subst hcr
      go_wp2_with fail
      go_ret2
      exact ⟨_, rfl, Kd.R_nil _ _ _ _ _, HB.out⟩
    · cases h3 : fd.toList.isEmpty
      · have hcr := HR.out
        rw [if_neg (by simp [h3])] at hcr
        subst hcr
        go_wp2_with fail
        go_ret2
        exact ⟨_, rfl, Kd.R_nil _ _ _ _ _, HB.out⟩
      · have hcr := HR.out
        rw [if_pos ⟨rfl, h2, h3⟩] at hcr
        go_wp2_with fail
        refine HW.out.mono ?_
        rintro e w1 ⟨v, rfl, ho, hb⟩
        have hb2 := HB.out.trans (hb.mono (by rw [HS.out]; omega))
        have HO := Lib.hid (Kd.R_lower (base' := w.heap.size) ho (by rw [HS.out]; omega))
        obtain ⟨A1, c1, hv, hc1, hC1⟩ := Kd.R_reads ho
        rw [hv] at HO ⊢
        clear ho hC1 hv hb HW
        cases o with
        | none =>
          subst hcr
          simp only [Option.isSome_none, Option.getD_none] at HO ⊢
          go_wp2_with fail
          go_ret2
          exact ⟨_, rfl, Kd.R_nil _ _ _ _ _, hb2⟩
        | some b =>
          subst hcr
          simp only [Option.isSome_some, Option.getD_some] at HO ⊢
          go_wp2_with fail
          go_ret2
          exact ⟨_, rfl, HO.out, hb2⟩
  · have hcr := HR.out
    rw [if_neg (fun h => h1 h.1)] at hcr
    subst hcr
    have k1 : (fk != 1) = true := by rw [bne_iff_ne]; exact h1
    go_wp2_with fail
    go_ret2
    exact ⟨_, rfl, Kd.R_nil _ _ _ _ _, HB.out⟩

end Go.Proofs.YthlcjjhfkldmhaaDoor.G
end
section
namespace Go.Proofs.YthlcjjhfkldmhaaDoor.G
open Go.RowKit Go.Lib Go.Proofs.YthlcjjhfkldmhaaDoorW.PrintWords Go.Proofs.YthlcjjhfkldmhaaDoorW.PrintLast
set_option linter.unusedVariables false

def rightT (f : File) : Bool := (checkR f).1 == 0

set_option maxHeartbeats 4000000 in
theorem right_calls (f : File) (A : Option Addr) (c : Nat) (w : World) (hbk : f.bulk ≤ 1099511627776) (hr : FileK.C w A f.files.length f.files) (hc : f.files.length ≤ c) :
    Calls Tryd.prog 45 #[fileV f A c] w fun e w' => e = .returned (.bool (rightT f)) ∧ Below w.heap.size w w' := by
  have HB := Lib.hid ((Below.refl w.heap.size w).alloc (Nat.le_refl _) (.cells #[.string f.name, .int .u8 f.kind, .string f.data, .slice A f.files.length c] 25))
  have HW := Lib.hid (check_calls f A c _ hbk (Kd.C_below hr HB.out) hc)
  have HS := Lib.hid (show (w.alloc (.cells #[.string f.name, .int .u8 f.kind, .string f.data, .slice A f.files.length c] 25)).heap.size = w.heap.size + 1 by simp)
  unfold rightT
  generalize checkR f = cr at *
  clear hr hbk
  go_enter Tryd.func45, Tryd.ntmps45
  unfold fileV
  go_wp2_with fail
  refine HW.out.mono ?_
  rintro e w1 ⟨v, rfl, ho, hb⟩
  have hb2 := HB.out.trans (hb.mono (by rw [HS.out]; omega))
  obtain ⟨A1, c1, rfl, hc1, hC1⟩ := Kd.R_reads ho
  clear ho hC1 hb HW
  go_wp2_with fail
  go_ret
  exact ⟨rfl, hb2⟩

end Go.Proofs.YthlcjjhfkldmhaaDoor.G
end
