/- trees.Get (chapter 03). -/
import Derived.Test.YthlcjjhfkldmhaaDoorTStore
import Derived.Test.YthlcjjhfkldmhaaDoorTCopy
import Derived.Test.YthlcjjhfkldmhaaDoorTRight
set_option linter.unusedVariables false
set_option linter.unusedSimpArgs false
namespace Go.Proofs.YthlcjjhfkldmhaaDoor.G
open Go.RowKit Go.Lib Go.Proofs.YthlcjjhfkldmhaaDoorW.PrintWords Go.Proofs.YthlcjjhfkldmhaaDoorW.PrintLast
set_option linter.unusedVariables false
set_option linter.unusedSimpArgs false

set_option maxHeartbeats 4000000 in
set_option maxRecDepth 100000 in
theorem Get_calls (f : File) (A : Option Addr) (c : Nat) (Ap : Option Addr) (cp : Nat) (p : List ByteArray) (w : World) (hr : FileK.C w A f.files.length f.files) (hc : f.files.length ≤ c) (hbk : f.bulk ≤ 1099511627776) (hp : Kd.C Kd.string w Ap p.length p) (hcp : p.length ≤ cp) (hpl : p.length ≤ 1099511627776) :
    Calls Tryd.prog 26 #[fileV f A c, .slice Ap p.length cp] w fun e w' => ∃ v, e = .returned (.tuple #[.agg #[.string (getR f p).1.name, .int .u8 (getR f p).1.kind, .string (getR f p).1.data, v], .int .i64 (getR f p).2]) ∧ FileK.R 25 w' w.heap.size (fun _ => True) v (getR f p).1.files ∧ Below w.heap.size w w' := by
  have h2 := two_boxes w #[.string f.name, .int .u8 f.kind, .string f.data, .slice A f.files.length c] #[.string ⟨#[]⟩, .int .u8 0, .string ⟨#[]⟩, .slice none 0 0] 25 25
  have hb2 := (below_alloc (Below.refl w.heap.size w) (.cells #[.string f.name, .int .u8 f.kind, .string f.data, .slice A f.files.length c] 25)).alloc (by simp) (.cells #[.string ⟨#[]⟩, .int .u8 0, .string ⟨#[]⟩, .slice none 0 0] 25)
  have hz2 : ((w.alloc (.cells #[.string f.name, .int .u8 f.kind, .string f.data, .slice A f.files.length c] 25)).alloc (.cells #[.string ⟨#[]⟩, .int .u8 0, .string ⟨#[]⟩, .slice none 0 0] 25)).heap.size = w.heap.size + 2 := by simp
  have HRT := Lib.hid (right_calls f A c _ hbk (Kd.C_below hr hb2) hc)
  have HR := Lib.hid hr
  have HP := Lib.hid hp
  have HGR : Hid (getR f p = if rightT f then (match goP f p with | (_, some y) => (y, 0) | (k, none) => (zeroF, k)) else (zeroF, 30)) := Lib.hid rfl
  have HGC := Lib.hid (fun W h1 h2 h3 => get_calls f ⟨w.heap.size, 0, none⟩ A c Ap cp p W h1 hbk h2 h3 hcp hpl)
  generalize getR f p = gr at *
  have y0 := cell_of (j := 0) h2.1 rfl
  have y1 := cell_of (j := 1) h2.1 rfl
  have y2 := cell_of (j := 2) h2.1 rfl
  have y3 := cell_of (j := 3) h2.1 rfl
  have H2 := Lib.hid h2
  clear hr hp h2
  go_enter Tryd.func26, Tryd.ntmps26
  unfold fileV
  go_wp2_with fail
  generalize ((w.alloc (.cells #[.string f.name, .int .u8 f.kind, .string f.data, .slice A f.files.length c] 25)).alloc (.cells #[.string ⟨#[]⟩, .int .u8 0, .string ⟨#[]⟩, .slice none 0 0] 25)) = W0 at *
  refine HRT.out.mono ?_
  rintro e w1 ⟨rfl, hb1⟩
  have hs1 := hb1.size
  have hb1w := hb2.trans (hb1.mono (by omega))
  have HN1 := Lib.hid ((hb1.block w.heap.size (by omega)).trans H2.out.1)
  have HN2 := Lib.hid ((hb1.block (w.heap.size + 1) (by omega)).trans H2.out.2)
  have f0 : ∀ j, w1.frozen? ⟨w.heap.size + 1, j, none⟩ = false := fun j => by simp [World.frozen?, HN2.out]
  have f00 := f0 0
  have f01 := f0 1
  have f02 := f0 2
  have f03 := f0 3
  have z0 := cell_of (j := 0) HN2.out rfl
  have z1 := cell_of (j := 1) HN2.out rfl
  have z2 := cell_of (j := 2) HN2.out rfl
  have z3 := cell_of (j := 3) HN2.out rfl
  have HST : Hid (∀ (W : World) (h : W.heap[w.heap.size + 1]? = some (.cells #[.string ⟨#[]⟩, .int .u8 0, .string ⟨#[]⟩, .slice none 0 0] 25 (0, 0))) (u0 u1 u2 u3 : Value),
      ((((W.setCell ⟨w.heap.size + 1, 0, none⟩ u0).setCell ⟨w.heap.size + 1, 1, none⟩ u1).setCell ⟨w.heap.size + 1, 2, none⟩ u2).setCell ⟨w.heap.size + 1, 3, none⟩ u3).heap[w.heap.size + 1]? = some (.cells #[u0, u1, u2, u3] 25 (0, 0))) :=
    Lib.hid fun W h u0 u1 u2 u3 => blk_put (cs := #[u0, u1, u2, .slice none 0 0]) (blk_put (cs := #[u0, u1, .string ⟨#[]⟩, .slice none 0 0]) (blk_put (cs := #[u0, .int .u8 0, .string ⟨#[]⟩, .slice none 0 0]) (blk_put (cs := #[.string ⟨#[]⟩, .int .u8 0, .string ⟨#[]⟩, .slice none 0 0]) h 0 _ rfl) 1 _ rfl) 2 _ rfl) 3 _ rfl
  have HBL : Hid (∀ (W : World), Below w.heap.size w W → ∀ (u0 u1 u2 u3 : Value), Below w.heap.size w ((((W.setCell ⟨w.heap.size + 1, 0, none⟩ u0).setCell ⟨w.heap.size + 1, 1, none⟩ u1).setCell ⟨w.heap.size + 1, 2, none⟩ u2).setCell ⟨w.heap.size + 1, 3, none⟩ u3)) :=
    Lib.hid fun W h u0 u1 u2 u3 => (((h.setCell (by simp only; omega) _).setCell (by simp only; omega) _).setCell (by simp only; omega) _).setCell (by simp only; omega) _
  clear f0 y0 y1 y2 y3 HRT hb1
  cases hrt : rightT f
  · have hg := HGR.out
    rw [hrt] at hg
    simp only [Bool.false_eq_true, if_false] at hg
    subst hg
    have HH := Lib.hid (HST.out w1 HN2.out (.string ⟨#[]⟩) (.int .u8 0) (.string ⟨#[]⟩) (.slice none 0 0))
    have HB := Lib.hid (HBL.out w1 hb1w (.string ⟨#[]⟩) (.int .u8 0) (.string ⟨#[]⟩) (.slice none 0 0))
    go_wp2_with fail
    refine bodyPost_ret (results_ct rfl _ _ (w.heap.size + 1) 25 #[.string ⟨#[]⟩, .int .u8 0, .string ⟨#[]⟩, .slice none 0 0] (0, 0) _ rfl HH.out Tryd.underlying25 rfl (by kernel_rfl)) rfl ?_
    exact ⟨_, rfl, Kd.R_nil _ _ _ _ _, HB.out⟩
  · have hg := HGR.out
    rw [hrt] at hg
    simp only [if_true] at hg
    have HG := Lib.hid hg
    clear hg
    go_wp2_with fail
    refine (HGC.out w1 ⟨cell_of HN1.out rfl, cell_of HN1.out rfl, cell_of HN1.out rfl, cell_of HN1.out rfl, hc, Kd.C_below HR.out hb1w⟩ (right_sort hrt) (Kd.C_below HP.out hb1w)).mono ?_
    rintro e w2 ⟨hb2', ⟨ad', y, A', c', hgo, rfl, hat, _, hyb, _⟩ | ⟨k, hk0, hgo, rfl⟩⟩
    · have hg := HG.out
      rw [hgo] at hg
      simp only at hg
      subst hg
      have hs2 := hb2'.size
      have hb2w := bstep hb1w hb1w.size hb2'
      have x0 := (hb2'.cell (World.block_lt_of_cell? w1 _ hat.c0)).trans hat.c0
      have x1 := (hb2'.cell (World.block_lt_of_cell? w1 _ hat.c1)).trans hat.c1
      have x2 := (hb2'.cell (World.block_lt_of_cell? w1 _ hat.c2)).trans hat.c2
      have x3 := (hb2'.cell (World.block_lt_of_cell? w1 _ hat.c3)).trans hat.c3
      have HCP := Lib.hid (show Calls Tryd.prog 42 #[.agg #[.string y.name, .int .u8 y.kind, .string y.data, .slice A' y.files.length c']] w2 _ from copy_file y.bulk y A' c' w2 (Nat.le_refl _) (by omega) (Kd.C_below hat.ch hb2') hat.le)
      clear HG hgo hat
      go_wp2_with fail
      refine HCP.out.mono ?_
      rintro e w3 ⟨v, rfl, ho, hb3⟩
      have hs3 := hb3.size
      have HN3 := Lib.hid ((hb3.block (w.heap.size + 1) (by omega)).trans ((hb2'.block (w.heap.size + 1) (by omega)).trans HN2.out))
      have hb3w := bstep hb2w hb2w.size hb3
      have HO := Lib.hid (Kd.R_lower (base' := w.heap.size) (Kd.R_mono (Kd.R_bound ho) (ok' := fun j => w2.heap.size ≤ j) fun j hj => hj.2.1) (by omega))
      obtain ⟨A3, c3, rfl, hc3, hC3⟩ := Kd.R_reads ho
      have HH := Lib.hid (HST.out w3 HN3.out (.string y.name) (.int .u8 y.kind) (.string y.data) (.slice A3 y.files.length c3))
      have HB := Lib.hid (HBL.out w3 hb3w (.string y.name) (.int .u8 y.kind) (.string y.data) (.slice A3 y.files.length c3))
      have HRR := Lib.hid (Kd.R_mono (Kd.R_far (Kd.R_far (Kd.R_far (Kd.R_far HO.out (p := ⟨w.heap.size + 1, 0, none⟩) (fun j hj => by simp only; omega) (.string y.name)) (p := ⟨w.heap.size + 1, 1, none⟩) (fun j hj => by simp only; omega) (.int .u8 y.kind)) (p := ⟨w.heap.size + 1, 2, none⟩) (fun j hj => by simp only; omega) (.string y.data)) (p := ⟨w.heap.size + 1, 3, none⟩) (fun j hj => by simp only; omega) (.slice A3 y.files.length c3)) (ok' := fun _ => True) fun _ _ => trivial)
      clear ho hC3 f00 f01 f02 f03 z0 z1 z2 z3 x0 x1 x2 x3
      have f0 : ∀ j, w3.frozen? ⟨w.heap.size + 1, j, none⟩ = false := fun j => by simp [World.frozen?, HN3.out]
      have f00 := f0 0
      have f01 := f0 1
      have f02 := f0 2
      have f03 := f0 3
      have z0 := cell_of (j := 0) HN3.out rfl
      have z1 := cell_of (j := 1) HN3.out rfl
      have z2 := cell_of (j := 2) HN3.out rfl
      have z3 := cell_of (j := 3) HN3.out rfl
      clear f0
      go_wp2_with fail
      refine bodyPost_ret (results_ct rfl _ _ (w.heap.size + 1) 25 #[.string y.name, .int .u8 y.kind, .string y.data, .slice A3 y.files.length c3] (0, 0) _ rfl HH.out Tryd.underlying25 rfl (by kernel_rfl)) rfl ?_
      exact ⟨_, rfl, HRR.out, HB.out⟩
    · have hg := HG.out
      rw [hgo] at hg
      simp only at hg
      subst hg
      have hs2 := hb2'.size
      have hb2w := bstep hb1w hb1w.size hb2'
      have HN3 := Lib.hid ((hb2'.block (w.heap.size + 1) (by omega)).trans HN2.out)
      have HH := Lib.hid (HST.out w2 HN3.out (.string ⟨#[]⟩) (.int .u8 0) (.string ⟨#[]⟩) (.slice none 0 0))
      have HB := Lib.hid (HBL.out w2 hb2w (.string ⟨#[]⟩) (.int .u8 0) (.string ⟨#[]⟩) (.slice none 0 0))
      clear f00 f01 f02 f03 z0 z1 z2 z3
      have f0 : ∀ j, w2.frozen? ⟨w.heap.size + 1, j, none⟩ = false := fun j => by simp [World.frozen?, HN3.out]
      have f00 := f0 0
      have f01 := f0 1
      have f02 := f0 2
      have f03 := f0 3
      have z0 := cell_of (j := 0) HN3.out rfl
      have z1 := cell_of (j := 1) HN3.out rfl
      have z2 := cell_of (j := 2) HN3.out rfl
      have z3 := cell_of (j := 3) HN3.out rfl
      have k1 : (k != 0) = true := by rw [bne_iff_ne]; exact hk0
      clear f0
      go_wp2_with fail
      refine bodyPost_ret (results_ct rfl _ _ (w.heap.size + 1) 25 #[.string ⟨#[]⟩, .int .u8 0, .string ⟨#[]⟩, .slice none 0 0] (0, 0) _ rfl HH.out Tryd.underlying25 rfl (by kernel_rfl)) rfl ?_
      exact ⟨_, rfl, Kd.R_nil _ _ _ _ _, HB.out⟩
end Go.Proofs.YthlcjjhfkldmhaaDoor.G
