/- (*Fs).Tree: its rows apart. Printed by wip/tools/gen_vtreef.py. -/
import Derived.Test.YthlcjjhfkldmhaaDoorVIn
import Derived.Test.YthlcjjhfkldmhaaDoorTTurn
set_option linter.unusedVariables false
set_option linter.unusedSimpArgs false
namespace Go.Proofs.YthlcjjhfkldmhaaDoor.G
open Go.RowKit Go.Lib Go.Proofs.YthlcjjhfkldmhaaDoorW.PrintWords Go.Proofs.YthlcjjhfkldmhaaDoorW.PrintLast
set_option linter.unusedVariables false

set_option maxHeartbeats 4000000 in
set_option maxRecDepth 100000 in
theorem treeF_api (w : World) (g : Nat) (O : Nat → Prop) (tb : Option Nat) (f : FsV) (hfs : FsAt w g O tb f) (hbt : f.tree.bulk ≤ 1099511627776) :
    Calls Tryd.prog 23 #[.pointer (some ⟨g, 0, none⟩)] w fun e w' => ∃ A c bl, e = .returned (fileV f.tree A c) ∧ f.tree.files.length ≤ c ∧ FT w.heap.size f.tree w' (.slice A f.tree.files.length c) bl ∧ bl.Nodup ∧ Below w.heap.size w w' := by
  have HFS := Lib.hid hfs
  obtain ⟨A, c, v, m, lo, hi, hbox, hle, hiv, hsep, htr, htb, hfl, hOm, hOlt⟩ := hfs
  unfold fsCells at hbox
  have HS := Lib.hid (fun W (h : Below w.heap.size w W) => hiv W fun k h1 h2 => h.block k (hOlt k (hsep k h1 h2).1))
  have hgl := blk_lt hbox
  have hb0 := below_alloc (Below.refl w.heap.size w) (.cells #[.string ⟨#[]⟩, .int .u8 0, .string ⟨#[]⟩, .slice none 0 0] 25)
  have HBG := Lib.hid ((hb0.block g hgl).trans hbox)
  have HZ0 := Lib.hid (blk_new w (.cells #[.string ⟨#[]⟩, .int .u8 0, .string ⟨#[]⟩, .slice none 0 0] 25))
  have HB0 := Lib.hid hb0
  clear hbox hiv hsep htr htb hfl hOm hOlt
  go_enter Tryd.func23, Tryd.ntmps23
  have l0 := cell_of (j := 0) HBG.out rfl
  have l1 := cell_of (j := 1) HBG.out rfl
  have l2 := cell_of (j := 2) HBG.out rfl
  have l3 := cell_of (j := 3) HBG.out rfl
  have l4 := cell_of (j := 4) HBG.out rfl
  have l5 := cell_of (j := 5) HBG.out rfl
  go_wp2_with fail
  clear l0 l1 l2 l3 l4 l5
  generalize (w.alloc (.cells #[.string ⟨#[]⟩, .int .u8 0, .string ⟨#[]⟩, .slice none 0 0] 25)) = W0 at *
  have hs0 := HB0.out.size
  have hz0 := blk_lt HZ0.out
  refine (show Calls Tryd.prog 42 #[.agg #[.string f.tree.name, .int .u8 f.tree.kind, .string f.tree.data, .slice A f.tree.files.length c]] _ _ from copy_apart f.tree.bulk f.tree A c W0 (Nat.le_refl _) (by omega) (HS.out _ HB0.out) hle).mono ?_
  rintro e w1 ⟨v2, bl, rfl, hR2, hnd, hq1⟩
  have HR2 := Lib.hid hR2
  obtain ⟨A2, c2, rfl, hc2, hC2⟩ := FT_reads _ _ _ _ _ hR2
  clear hR2 hC2
  have HZ1 := Lib.hid ((hq1.block _ hz0).trans HZ0.out)
  have hb1 := HB0.out.trans (hq1.mono hs0)
  have z0 := cell_of (j := 0) HZ1.out rfl
  have u0 := unfr HZ1.out 0
  have z1 := cell_of (j := 1) HZ1.out rfl
  have u1 := unfr HZ1.out 1
  have z2 := cell_of (j := 2) HZ1.out rfl
  have u2 := unfr HZ1.out 2
  have z3 := cell_of (j := 3) HZ1.out rfl
  have u3 := unfr HZ1.out 3
  go_wp2_with fail
  have HZ9 := Lib.hid (store4_box HZ1.out (.string f.tree.name) (.int .u8 f.tree.kind) (.string f.tree.data) (.slice A2 f.tree.files.length c2))
  refine bodyPost_ret (results_c1 rfl _ _ w.heap.size 25 #[.string f.tree.name, .int .u8 f.tree.kind, .string f.tree.data, .slice A2 f.tree.files.length c2] (0, 0) _ rfl HZ9.out Tryd.underlying25 rfl (by kernel_rfl)) rfl ?_
  refine ⟨A2, c2, bl, rfl, hc2, FT_lower (B' := w.heap.size) (by omega) _ _ _ _ (FT_move _ _ _ _ _ _ HR2.out fun k hk => ?_), hnd, store4_below hb1 (Nat.le_refl _) (.string f.tree.name) (.int .u8 f.tree.kind) (.string f.tree.data) (.slice A2 f.tree.files.length c2)⟩
  have := FT_lt _ _ _ _ _ HR2.out k hk
  exact store4_other w1 (g := w.heap.size) (by omega) (.string f.tree.name) (.int .u8 f.tree.kind) (.string f.tree.data) (.slice A2 f.tree.files.length c2)
theorem treeF_in (w : World) (g : Nat) (S : Nat → Prop) (f : FsV) (h : FsIn S w g f) (hbt : f.tree.bulk ≤ 1099511627776) :
    Calls Tryd.prog 23 #[.pointer (some ⟨g, 0, none⟩)] w fun e w' => ∃ A c bl, e = .returned (fileV f.tree A c) ∧ f.tree.files.length ≤ c ∧ FT w.heap.size f.tree w' (.slice A f.tree.files.length c) bl ∧ bl.Nodup ∧ Below w.heap.size w w' := by
  obtain ⟨O, tb, h1, _⟩ := h
  exact treeF_api w g O tb f h1 hbt
theorem call_openM {w : World} {base : Nat} {ok : Nat → Prop} {x : Call} {cs : List Value} (h : CallK.M w base ok x cs) : ∃ v u, cs = [.int .u8 x.kind, v, u, .int .i64 x.why] ∧ Kd.R Kd.string 9 w base ok v x.path ∧ Kd.R Kd.string 9 w base ok u x.dest := by
  obtain ⟨c0, c1, rfl, h1, c2, c3, rfl, ⟨v, rfl, h3⟩, c4, c5, rfl, ⟨u, rfl, h5⟩, h6⟩ := h
  obtain rfl : c0 = [.int .u8 x.kind] := h1
  obtain rfl : c5 = [.int .i64 x.why] := h6
  exact ⟨v, u, rfl, h3, h5⟩
end Go.Proofs.YthlcjjhfkldmhaaDoor.G
