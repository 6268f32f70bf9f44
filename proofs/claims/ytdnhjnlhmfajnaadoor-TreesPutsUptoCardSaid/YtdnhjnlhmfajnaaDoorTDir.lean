/- trees.dir. -/
import Derived.Test.YtdnhjnlhmfajnaaDoorTMem
namespace Go.Proofs.YtdnhjnlhmfajnaaDoor.G
open Go.RowKit Go.Lib Go.Proofs.YtdnhjnlhmfajnaaDoorW.PrintWords Go.Proofs.YtdnhjnlhmfajnaaDoorW.PrintLast
set_option linter.unusedVariables false

/-- The folder of a path. -/
def dirO (f : File) (p : List ByteArray) : Option File := if p = [] then none else match goP f p.dropLast with
  | (_, some y) => if y.kind = 1 then some y else none
  | (_, none) => none

set_option maxHeartbeats 4000000 in
set_option maxRecDepth 100000 in
theorem dir_calls (f : File) (ad : Addr) (A : Option Addr) (c : Nat) (Ap : Option Addr) (cp : Nat) (p : List ByteArray) (w : World) (hf : FileAt w ad f A c) (hbk : f.bulk ≤ 1099511627776) (hs : SortF f) (hp : Kd.C Kd.string w Ap p.length p) (hcp : p.length ≤ cp) (hpl : p.length ≤ 1099511627776) :
    Calls Tryd.prog 41 #[.pointer (some ad), .slice Ap p.length cp] w fun e w' => Below w.heap.size w w' ∧ ((∃ ad' y A' c', p ≠ [] ∧ dirO f p = some y ∧ goP f p.dropLast = (0, some y) ∧ y.kind = 1 ∧ e = .returned (.pointer (some ad')) ∧ FileAt w ad' y A' c' ∧ Reach w ad f p.dropLast ad' y) ∨ (dirO f p = none ∧ e = .returned (.pointer none))) := by
  by_cases h0 : p = []
  · subst h0
    have HD : Hid (dirO f [] = none) := Lib.hid rfl
    go_enter Tryd.func41, Tryd.ntmps41
    go_wp2_with fail
    go_ret
    exact ⟨Below.refl _ _, .inr ⟨HD.out, rfl⟩⟩
  · have hpos : 0 < p.length := List.length_pos_iff.2 h0
    obtain ⟨q, hq⟩ : ∃ q, p.dropLast = q := ⟨_, rfl⟩
    have hql : p.length = q.length + 1 := by rw [← hq, List.length_dropLast]; omega
    have HGC := Lib.hid (get_calls f ad A c Ap cp q w hf hbk hs (by
      have h1 := Kd.C_take hp (m := p.length - 1) (by omega)
      rw [← List.dropLast_eq_take, hq] at h1
      exact h1) (by omega) (by omega))
    have HD : Hid (dirO f p = match goP f q with | (_, some y) => if y.kind = 1 then some y else none | (_, none) => none) := Lib.hid (by rw [dirO, if_neg h0, hq])
    rw [hq]
    have H0 := Lib.hid h0
    rw [hql] at hcp hpl ⊢
    have hk1 : ((q.length : Int) + 1 - 1) = (q.length : Int) := by omega
    clear hp h0 hpos
    have HQL := Lib.hid hql
    clear hql hq
    go_enter Tryd.func41, Tryd.ntmps41
    go_wp2_with fail
    refine HGC.out.mono ?_
    rintro e w1 ⟨hb, ⟨ad', y, A', c', hgo, rfl, hat, hre, _, _⟩ | ⟨k, hk0, hgo, rfl⟩⟩
    · have hd := HD.out
      rw [hgo] at hd
      simp only at hd
      have x1 := (hb.cell (World.block_lt_of_cell? w _ hat.c1)).trans hat.c1
      by_cases hk : y.kind = 1
      · rw [if_pos hk] at hd
        have HDD := Lib.hid hd
        clear hd
        go_wp2_with fail
        go_ret
        exact ⟨hb, .inl ⟨ad', y, A', c', H0.out, HDD.out, hgo, hk, rfl, hat, hre⟩⟩
      · rw [if_neg hk] at hd
        have k1 : (y.kind != 1) = true := by rw [bne_iff_ne]; exact hk
        have HDD := Lib.hid hd
        clear hd hk
        go_wp2_with fail
        go_ret
        exact ⟨hb, .inr ⟨HDD.out, rfl⟩⟩
    · have hd := HD.out
      rw [hgo] at hd
      simp only at hd
      have k1 : (k != 0) = true := by rw [bne_iff_ne]; exact hk0
      have HDD := Lib.hid hd
      clear hd hk0 hgo
      go_wp2_with fail
      go_ret
      exact ⟨hb, .inr ⟨HDD.out, rfl⟩⟩
end Go.Proofs.YtdnhjnlhmfajnaaDoor.G
