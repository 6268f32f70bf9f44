/- A path and one name more: trees.below, paddockref03.longer. -/
import Derived.Test.YtdnhjnlhmfajnaaDoorTName
namespace Go.Proofs.YtdnhjnlhmfajnaaDoor.G
open Go.RowKit Go.Lib Go.Proofs.YtdnhjnlhmfajnaaDoorW.PrintWords Go.Proofs.YtdnhjnlhmfajnaaDoorW.PrintLast
set_option linter.unusedVariables false

set_option maxHeartbeats 4000000 in
theorem below_calls (A : Option Addr) (c : Nat) (p : List ByteArray) (name : ByteArray) (w : World) (hr : Kd.C Kd.string w A p.length p) (hc : p.length ≤ c) (hl : p.length ≤ 4398046511104) :
    Calls Tryd.prog 56 #[.slice A p.length c, .string name] w fun e w' => ∃ v, e = .returned v ∧ Kd.R Kd.string 9 w' w.heap.size (fun _ => True) v (p ++ [name]) ∧ Below w.heap.size w w' := by
  have HC := Lib.hid (clone_calls A c p w hr hc (by omega))
  clear hr
  go_enter Tryd.func56, Tryd.ntmps56
  go_wp2_with fail
  refine HC.out.mono ?_
  rintro e w1 ⟨v1, rfl, ho, hb⟩
  have hsz := hb.size
  have HO := Lib.hid ho
  obtain ⟨A1, c1, rfl, hc1, hC1⟩ := Kd.R_reads ho
  clear ho hC1 HC
  go_wp2_with (at_builtin; refine Kd.R_append Kd.string (w0 := w) w.heap.size rfl (.tmp 6) (.tmp 8) 31 9 (.string ⟨#[]⟩) 16 rfl Tryd.underlying31 info_str rfl (by decide) (by decide) _ p name [.string name] (fun _ => True) (fun _ => False) rfl rfl ?aP ?aK ?aF ?aO ?aB ?aS ?aL ?_; (case aP => exact rfl); (case aK => exact fun j hj => hj.elim); (case aF => exact fun _ _ => trivial); (case aO => exact HO.out); (case aB => exact hb); (case aS => exact hsz); (case aL => omega); intro v2 w2 ho2 hb2 hg2 hat2)
  go_ret
  exact ⟨_, rfl, ho2, hb2⟩

set_option maxHeartbeats 4000000 in
theorem longer_calls (A : Option Addr) (c : Nat) (p : List ByteArray) (name : ByteArray) (w : World) (hr : Kd.C Kd.string w A p.length p) (hc : p.length ≤ c) (hl : p.length ≤ 4398046511104) :
    Calls Tryd.prog 69 #[.slice A p.length c, .string name] w fun e w' => ∃ v, e = .returned v ∧ Kd.R Kd.string 9 w' w.heap.size (fun _ => True) v (p ++ [name]) ∧ Below w.heap.size w w' := by
  have HR := Lib.hid hr
  clear hr
  go_enter Tryd.func69, Tryd.ntmps69
  go_wp2_with (first
    | (at_builtin
       refine Kd.R_append_row Value.string ByteArray.empty (h1 := fun _ => rfl) (w0 := w) w.heap.size rfl (.tmp 6) (.tmp 7) 31 9 (.string ⟨#[]⟩) 16 rfl Tryd.underlying31 info_str rfl (by decide) (.slice none 0 0) [] p A p.length c (fun _ => True) rfl rfl ?aF ?aO ?aR ?aB ?aS ?aL ?_
       case aF => exact fun _ _ => trivial
       case aO => exact Kd.R_nil _ _ _ _ _
       case aR => exact HR.out
       case aB => exact Below.refl _ _
       case aS => exact Nat.le_refl _
       case aL => simp only [List.length_nil]; omega
       intro v1 w1 ho1 hb1 hg1 hat1
       rw [List.nil_append] at ho1
       have HO := Lib.hid ho1
       have hsz := hb1.size
       obtain ⟨A1, c1, rfl, hc1, hC1⟩ := Kd.R_reads ho1
       clear ho1 hC1 hat1 hg1)
    | (at_builtin
       refine Kd.R_append Kd.string (w0 := w) w.heap.size rfl (.tmp 9) (.tmp 11) 31 9 (.string ⟨#[]⟩) 16 rfl Tryd.underlying31 info_str rfl (by decide) (by decide) _ p name [.string name] (fun _ => True) (fun _ => False) rfl rfl ?aP ?aK ?aF ?aO ?aB ?aS ?aL ?_
       case aP => exact rfl
       case aK => exact fun j hj => hj.elim
       case aF => exact fun _ _ => trivial
       case aO => exact HO.out
       case aB => exact hb1
       case aS => exact hsz
       case aL => omega
       intro v2 w2 ho2 hb2 hg2 hat2))
  go_ret
  exact ⟨_, rfl, ho2, hb2⟩
end Go.Proofs.YtdnhjnlhmfajnaaDoor.G
