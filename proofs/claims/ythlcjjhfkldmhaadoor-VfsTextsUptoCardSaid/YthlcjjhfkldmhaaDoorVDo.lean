/- do: a call by its kind; is it one; the tree that is shown. Printed by wip/tools/gen_vdo.py. -/
import Derived.Test.YthlcjjhfkldmhaaDoorVApi
import Derived.Test.YthlcjjhfkldmhaaDoorTFrame
import Derived.Deep.Slices
set_option linter.unusedVariables false
set_option linter.unusedSimpArgs false
namespace Go.Proofs.YthlcjjhfkldmhaaDoor.G
open Go.RowKit Go.Lib Go.Proofs.YthlcjjhfkldmhaaDoorW.PrintWords Go.Proofs.YthlcjjhfkldmhaaDoorW.PrintLast
set_option linter.unusedVariables false
set_option linter.unusedSimpArgs false

theorem boxes3 (w : World) (a b c : Array Value) (t u v : TypeId) : (((w.alloc (.cells a t)).alloc (.cells b u)).alloc (.cells c v)).heap[w.heap.size]? = some (.cells a t (0, 0)) ∧ (((w.alloc (.cells a t)).alloc (.cells b u)).alloc (.cells c v)).heap[w.heap.size + 1]? = some (.cells b u (0, 0)) ∧ (((w.alloc (.cells a t)).alloc (.cells b u)).alloc (.cells c v)).heap[w.heap.size + 2]? = some (.cells c v (0, 0)) := by
  have h := two_boxes w a b t u
  have h3 := blk_new ((w.alloc (.cells a t)).alloc (.cells b u)) (.cells c v)
  have hs : ((w.alloc (.cells a t)).alloc (.cells b u)).heap.size = w.heap.size + 2 := by simp
  rw [hs] at h3
  exact ⟨(Below.heap_alloc _ _ _ (by rw [hs]; omega)).trans h.1, (Below.heap_alloc _ _ _ (by rw [hs]; omega)).trans h.2, h3⟩
theorem results_c1 {P : Program} {fn : Func} {p : Tmp} {ty : TypeId} (h : fn.results = #[.cell p ty]) (tmps : Array Value) (w : World) (g : Nat) (t : TypeId) (cs : Array Value) (fr : Nat × Nat) (d : TypeDesc)
    (hp : tmps.getD p undef = .pointer (some ⟨g, 0, none⟩)) (hg : w.heap[g]? = some (.cells cs t fr))
    (hu : P.underlying ty = some d) (hd : (match d with | .struct _ | .array _ _ => true | _ => false) = true) (hi : (P.info? ty).map (·.size) = some cs.size) :
    (results fn tmps).run P w = .ok (.agg cs) w := by
  have hp' : tmps[p]?.getD undef = .pointer (some ⟨g, 0, none⟩) := by simpa using hp
  simp [results, h, hp', asAddr, run_loadVar_row w g t ty cs fr d hg hu hd hi]
set_option maxHeartbeats 4000000 in
set_option maxRecDepth 100000 in
theorem tree_api (w : World) (g : Nat) (O : Nat → Prop) (tb : Option Nat) (f : FsV) (hfs : FsAt w g O tb f) (hbt : f.tree.bulk ≤ 1099511627776) :
    Calls Tryd.prog 23 #[.pointer (some ⟨g, 0, none⟩)] w fun e w' => ∃ A c, e = .returned (fileV f.tree A c) ∧ f.tree.files.length ≤ c ∧ FileK.R 25 w' w.heap.size (fun _ => True) (.slice A f.tree.files.length c) f.tree.files ∧ Below w.heap.size w w' := by
  have HFS := Lib.hid hfs
  obtain ⟨A, c, v, m, lo, hi, hbox, hle, hiv, hsep, htr, htb, hfl, hOm, hOlt⟩ := hfs
  unfold fsCells at hbox
  have HS := Lib.hid (fun W (h : Below w.heap.size w W) => hiv W fun k h1 h2 => h.block k (hOlt k (hsep k h1 h2).1))
  have hgl := blk_lt hbox
  have hb0 := below_alloc (Below.refl w.heap.size w) (.cells #[.string ⟨#[]⟩, .int .u8 0, .string ⟨#[]⟩, .slice none 0 0] 25)
  have HBG := Lib.hid ((hb0.block g hgl).trans hbox)
  have HZ0 := Lib.hid (blk_new w (.cells #[.string ⟨#[]⟩, .int .u8 0, .string ⟨#[]⟩, .slice none 0 0] 25))
  have HB0 := Lib.hid hb0
  clear hbox hiv hsep htr htb hfl hOm hOlt
  go_enter Tryd.func23, Tryd.ntmps23
  have l0 := cell_of (j := 0) HBG.out rfl
  have l1 := cell_of (j := 1) HBG.out rfl
  have l2 := cell_of (j := 2) HBG.out rfl
  have l3 := cell_of (j := 3) HBG.out rfl
  have l4 := cell_of (j := 4) HBG.out rfl
  have l5 := cell_of (j := 5) HBG.out rfl
  go_wp2_with fail
  clear l0 l1 l2 l3 l4 l5
  generalize (w.alloc (.cells #[.string ⟨#[]⟩, .int .u8 0, .string ⟨#[]⟩, .slice none 0 0] 25)) = W0 at *
  have hs0 := HB0.out.size
  have hz0 := blk_lt HZ0.out
  refine (show Calls Tryd.prog 42 #[.agg #[.string f.tree.name, .int .u8 f.tree.kind, .string f.tree.data, .slice A f.tree.files.length c]] _ _ from copy_file f.tree.bulk f.tree A c W0 (Nat.le_refl _) (by omega) (HS.out _ HB0.out) hle).mono ?_
  rintro e w1 ⟨v2, rfl, hR2, hq1⟩
  have HR2 := Lib.hid hR2
  obtain ⟨A2, c2, rfl, hc2, hC2⟩ := Kd.R_reads hR2
  clear hR2 hC2
  have HZ1 := Lib.hid ((hq1.block _ hz0).trans HZ0.out)
  have hb1 := HB0.out.trans (hq1.mono hs0)
  have z0 := cell_of (j := 0) HZ1.out rfl
  have u0 := unfr HZ1.out 0
  have z1 := cell_of (j := 1) HZ1.out rfl
  have u1 := unfr HZ1.out 1
  have z2 := cell_of (j := 2) HZ1.out rfl
  have u2 := unfr HZ1.out 2
  have z3 := cell_of (j := 3) HZ1.out rfl
  have u3 := unfr HZ1.out 3
  go_wp2_with fail
  have HZ9 := Lib.hid (store4_box HZ1.out (.string f.tree.name) (.int .u8 f.tree.kind) (.string f.tree.data) (.slice A2 f.tree.files.length c2))
  refine bodyPost_ret (results_c1 rfl _ _ w.heap.size 25 #[.string f.tree.name, .int .u8 f.tree.kind, .string f.tree.data, .slice A2 f.tree.files.length c2] (0, 0) _ rfl HZ9.out Tryd.underlying25 rfl (by kernel_rfl)) rfl ?_
  exact ⟨A2, c2, rfl, hc2, Kd.R_mono (Kd.R_lower (Kd.R_step (Kd.R_bound HR2.out) fun k hk _ => store4_other w1 (g := w.heap.size) (by have := hk.2.1; omega) (.string f.tree.name) (.int .u8 f.tree.kind) (.string f.tree.data) (.slice A2 f.tree.files.length c2)) hs0) (fun _ _ => trivial), store4_below hb1 (Nat.le_refl _) (.string f.tree.name) (.int .u8 f.tree.kind) (.string f.tree.data) (.slice A2 f.tree.files.length c2)⟩
end Go.Proofs.YthlcjjhfkldmhaaDoor.G
