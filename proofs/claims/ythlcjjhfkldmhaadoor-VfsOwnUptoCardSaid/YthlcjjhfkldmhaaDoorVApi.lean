/- The file system's methods: Lstat, Read, Create, Append, Rename, Calls. Printed by wip/tools/gen_vapi.py. -/
import Derived.Test.YthlcjjhfkldmhaaDoorVCall
set_option linter.unusedVariables false
set_option linter.unusedSimpArgs false
namespace Go.Proofs.YthlcjjhfkldmhaaDoor.G
open Go.RowKit Go.Lib Go.Proofs.YthlcjjhfkldmhaaDoorW.PrintWords Go.Proofs.YthlcjjhfkldmhaaDoorW.PrintLast
set_option linter.unusedVariables false
set_option linter.unusedSimpArgs false

/-- What a call leaves of a file system. -/
def FsPost (w : World) (g : Nat) (O : Nat → Prop) (tb : Option Nat) (f' : FsV) (w' : World) : Prop :=
  (∃ tb', (tb' = tb ∨ ∃ j, tb' = some j ∧ w.heap.size ≤ j) ∧ FsAt w' g (fun k => O k ∨ w.heap.size ≤ k ∧ k < w'.heap.size) tb' f') ∧ Only (fun k => k = g ∨ tb = some k) w w'
/-- A path among the arguments, apart from the file system. -/
abbrev PathAt (w : World) (g : Nat) (tb : Option Nat) (A : Option Addr) (p : List ByteArray) : Prop := Kd.F Kd.string w (fun k => k ≠ g ∧ tb ≠ some k) A p.length p
theorem fsPost_lift {w W w' : World} {g : Nat} {O : Nat → Prop} {tb : Option Nat} {f f' : FsV} (hfs : FsAt w g O tb f) (hb : Below w.heap.size w W) {F : Nat → Prop} (hF : ∀ k, k < w.heap.size → F k → k = g ∨ tb = some k)
    {tb' : Option Nat} (ht : tb' = tb ∨ ∃ j, tb' = some j ∧ W.heap.size ≤ j) (h : FsAt w' g (fun k => O k ∨ W.heap.size ≤ k ∧ k < w'.heap.size) tb' f') (ho : Only F W w') : FsPost w g O tb f' w' := by
  have hs := hb.size
  have hs' := ho.size
  refine ⟨⟨tb', ht.imp id fun ⟨j, e, h⟩ => ⟨j, e, Nat.le_trans hs h⟩, h.mono (fun k hk => hk.imp id fun hk => ⟨Nat.le_trans hs hk.1, hk.2⟩) fun k hk => hk.elim (fun hk => Nat.lt_of_lt_of_le (hfs.lts k hk) (Nat.le_trans hs hs')) fun hk => hk.2⟩, ?_⟩
  exact (Only.of_belowV hb (fun _ => False)).trans ho (fun _ _ h => h.elim) hF
theorem pathAt_req {w : World} {g r : Nat} {tb : Option Nat} {A : Option Addr} {p : List ByteArray} (h : PathAt w g tb A p) {W : World} (hb : Below w.heap.size w W) (hr : w.heap.size ≤ r) : Kd.F Kd.string W (fun k => k ≠ g ∧ k ≠ r ∧ tb ≠ some k) A p.length p :=
  Kd.F_below (Kd.F_mono (Kd.F_bound h) fun k hk => ⟨hk.1.1, by have := hk.2; omega, hk.1.2⟩) hb
set_option maxHeartbeats 4000000 in
set_option maxRecDepth 100000 in
theorem lstat_api (w : World) (g : Nat) (O : Nat → Prop) (tb : Option Nat) (f : FsV) (hfs : FsAt w g O tb f) (hgO : ¬ O g) (hbt : f.tree.bulk ≤ 100000000) (htl : f.trace.length ≤ 2000000) (Ap : Option Addr) (cp : Nat) (p : List ByteArray) (HP : PathAt w g tb Ap p) (hcp : p.length ≤ cp) (hpB : P.sumP p ≤ 1099511627776) :
    Calls Tryd.prog 31 #[.pointer (some ⟨g, 0, none⟩), .slice Ap p.length cp] w fun e w' => e = .returned (.tuple #[.agg #[.int .u8 (callV f 1 ⟨p, [], ⟨#[]⟩⟩).2.1.kind, .int .i64 (callV f 1 ⟨p, [], ⟨#[]⟩⟩).2.1.size], .int .i64 (callV f 1 ⟨p, [], ⟨#[]⟩⟩).2.2]) ∧ FsPost w g O tb (callV f 1 ⟨p, [], ⟨#[]⟩⟩).1 w' := by
  have h2 := two_boxes w #[.int .u8 0, .int .i64 0] #[.slice Ap p.length cp, .slice none 0 0, .string ⟨#[]⟩, .int .u8 0, .int .i64 0] 50 94
  have hb0 := ((Below.refl w.heap.size w).alloc (Nat.le_refl _) (.cells #[.int .u8 0, .int .i64 0] 50)).alloc (by simp) (.cells #[.slice Ap p.length cp, .slice none 0 0, .string ⟨#[]⟩, .int .u8 0, .int .i64 0] 94)
  have hgl := hfs.lt
  have hlts := hfs.lts
  have HFS := Lib.hid hfs
  have HF0 := Lib.hid (hfs.below hb0)
  have HR0 := Lib.hid h2.2
  have HP0 := Lib.hid (pathAt_req (r := (w.heap.size + 1)) HP hb0 (by omega))
  have hs0 := hb0.size
  have HB0 := Lib.hid hb0
  have HS0 := Lib.hid h2.1
  clear h2
  obtain ⟨⟨f', tl, wy⟩, hres⟩ : ∃ r, callV f 1 ⟨p, [], ⟨#[]⟩⟩ = r := ⟨_, rfl⟩
  have HRES := Lib.hid hres
  rw [hres]
  clear hres hfs HP hb0
  go_enter Tryd.func31, Tryd.ntmps31
  go_wp2_with fail
  generalize ((w.alloc (.cells #[.int .u8 0, .int .i64 0] 50)).alloc (.cells #[.slice Ap p.length cp, .slice none 0 0, .string ⟨#[]⟩, .int .u8 0, .int .i64 0] 94)) = W0 at *
  have hc := call_fs 1 (by omega) (by omega) W0 g (w.heap.size + 1) O tb f ⟨p, [], ⟨#[]⟩⟩ Ap cp none 0 HF0.out HR0.out (by omega) (fun h => by have := hlts _ h; omega) hgO hbt HP0.out hcp hpB (Kd.F_nil _ _ _) (Nat.le_refl _) (by show P.sumP [] ≤ _; have : P.sumP [] = 0 := rfl; omega) (by show (0 : Nat) ≤ _; omega) htl
  rw [HRES.out] at hc
  refine (show Calls Tryd.prog 47 #[.pointer (some ⟨g, 0, none⟩), .int .u8 1, .pointer (some ⟨(w.heap.size + 1), 0, none⟩)] W0 _ from hc).mono ?_
  clear hc
  rintro e w1 ⟨rfl, ⟨tb', htb, hfs1⟩, hr1, ho1⟩
  unfold reqCells at hr1
  have HF1 := Lib.hid hfs1
  have HR1 := Lib.hid hr1
  have HO1 := Lib.hid ho1
  have HTB := Lib.hid htb
  have hs1 := ho1.size
  have hsl := blk_lt HS0.out
  have hq0 : ∀ k, O k → k ≠ w.heap.size := fun k h => by have := hlts k h; omega
  have htb0 : tb ≠ some w.heap.size := fun e => by
    obtain ⟨A, c, v, m, lo, hi, _, _, _, _, h5, h6, _⟩ := HFS.out
    have := Kd.R_lt h5 w.heap.size (h6.trans e)
    omega
  have HS1 := Lib.hid ((ho1.block w.heap.size hsl (fun h => by rcases h with h | h | h; (· omega); (· omega); (· exact htb0 h))).trans HS0.out)
  clear hfs1 hr1 ho1 htb
  have lr0 := cell_of (j := 0) HR1.out rfl
  have lr1 := cell_of (j := 1) HR1.out rfl
  have lr2 := cell_of (j := 2) HR1.out rfl
  have lr3 := cell_of (j := 3) HR1.out rfl
  have lr4 := cell_of (j := 4) HR1.out rfl
  have ls0 := cell_of (j := 0) HS1.out rfl
  have lf0 := unfr HS1.out 0
  have ls1 := cell_of (j := 1) HS1.out rfl
  have lf1 := unfr HS1.out 1
  go_wp2_with fail
  have HS2 := Lib.hid (blk_put (blk_put HS1.out 0 (.int .u8 tl.kind) rfl) 1 (.int .i64 tl.size) rfl)
  refine bodyPost_ret (results_ct rfl _ _ w.heap.size 50 #[.int .u8 tl.kind, .int .i64 tl.size] (0, 0) _ rfl HS2.out Tryd.underlying50 rfl (by kernel_rfl)) rfl ?_
  have hne : ∀ k, k ≠ w.heap.size → ((w1.setCell ⟨w.heap.size, 0, none⟩ (.int .u8 tl.kind)).setCell ⟨w.heap.size, 1, none⟩ (.int .i64 tl.size)).heap[k]? = w1.heap[k]? := fun k hk => by rw [Below.heap_setCell _ _ _ _ hk, Below.heap_setCell _ _ _ _ hk]
  have hz : ((w1.setCell ⟨w.heap.size, 0, none⟩ (.int .u8 tl.kind)).setCell ⟨w.heap.size, 1, none⟩ (.int .i64 tl.size)).heap.size = w1.heap.size := by simp [World.setCell]
  have hF2 := HF1.out
  have hO2 := HO1.out
  refine ⟨rfl, ?_⟩
  have HK : FsAt ((w1.setCell ⟨w.heap.size, 0, none⟩ (.int .u8 tl.kind)).setCell ⟨w.heap.size, 1, none⟩ (.int .i64 tl.size)) g (fun k => O k ∨ w.heap.size ≤ k ∧ k < ((w1.setCell ⟨w.heap.size, 0, none⟩ (.int .u8 tl.kind)).setCell ⟨w.heap.size, 1, none⟩ (.int .i64 tl.size)).heap.size) tb' f' := ?k1
  case k1 =>
    refine FsAt.mono (O := fun k => O k ∨ W0.heap.size ≤ k ∧ k < w1.heap.size) (hF2.keep (fun k hk => hne k ?_) (by omega)) (fun k hk => hk.imp id fun h => ⟨by omega, by omega⟩) (fun k hk => hk.elim (fun h => by have := hlts k h; omega) fun h => h.2)
    rcases hk with h | h | h
    · omega
    · exact hq0 k h
    · omega
  refine ⟨⟨tb', HTB.out.imp id fun ⟨j, e, h⟩ => ⟨j, e, by omega⟩, HK⟩, ?_⟩
  have h1 : Only (fun k => k = w.heap.size) w1 ((w1.setCell ⟨w.heap.size, 0, none⟩ (.int .u8 tl.kind)).setCell ⟨w.heap.size, 1, none⟩ (.int .i64 tl.size)) := (Only.setCell w1 ⟨w.heap.size, 0, none⟩ (.int .u8 tl.kind)).trans (Only.setCell _ ⟨w.heap.size, 1, none⟩ (.int .i64 tl.size)) (fun _ _ h => h) (fun _ _ h => h)
  exact ((Only.of_belowV HB0.out (fun _ => False)).trans hO2 (K := fun k => k = g ∨ tb = some k) (fun _ _ h => h.elim) (fun k hk h => by rcases h with h | h | h; (· exact .inl h); (· omega); (· exact .inr h))).trans h1 (fun _ _ h => h) (fun k hk h => by omega)
set_option maxHeartbeats 4000000 in
set_option maxRecDepth 100000 in
theorem read_api (w : World) (g : Nat) (O : Nat → Prop) (tb : Option Nat) (f : FsV) (hfs : FsAt w g O tb f) (hgO : ¬ O g) (hbt : f.tree.bulk ≤ 100000000) (htl : f.trace.length ≤ 2000000) (Ap : Option Addr) (cp : Nat) (p : List ByteArray) (HP : PathAt w g tb Ap p) (hcp : p.length ≤ cp) (hpB : P.sumP p ≤ 1099511627776) :
    Calls Tryd.prog 29 #[.pointer (some ⟨g, 0, none⟩), .slice Ap p.length cp] w fun e w' => e = .returned (.tuple #[.string (callV f 2 ⟨p, [], ⟨#[]⟩⟩).2.1.data, .int .i64 (callV f 2 ⟨p, [], ⟨#[]⟩⟩).2.2]) ∧ FsPost w g O tb (callV f 2 ⟨p, [], ⟨#[]⟩⟩).1 w' := by
  have hb0 := below_alloc (Below.refl w.heap.size w) (.cells #[.slice Ap p.length cp, .slice none 0 0, .string ⟨#[]⟩, .int .u8 0, .int .i64 0] 94)
  have hgl := hfs.lt
  have hlts := hfs.lts
  have HFS := Lib.hid hfs
  have HF0 := Lib.hid (hfs.below hb0)
  have HR0 := Lib.hid (blk_new w (.cells #[.slice Ap p.length cp, .slice none 0 0, .string ⟨#[]⟩, .int .u8 0, .int .i64 0] 94))
  have HP0 := Lib.hid (pathAt_req (r := w.heap.size) HP hb0 (by omega))
  have hs0 := hb0.size
  have HB0 := Lib.hid hb0
  obtain ⟨⟨f', tl, wy⟩, hres⟩ : ∃ r, callV f 2 ⟨p, [], ⟨#[]⟩⟩ = r := ⟨_, rfl⟩
  have HRES := Lib.hid hres
  rw [hres]
  clear hres hfs HP hb0
  go_enter Tryd.func29, Tryd.ntmps29
  go_wp2_with fail
  generalize (w.alloc (.cells #[.slice Ap p.length cp, .slice none 0 0, .string ⟨#[]⟩, .int .u8 0, .int .i64 0] 94)) = W0 at *
  have hc := call_fs 2 (by omega) (by omega) W0 g w.heap.size O tb f ⟨p, [], ⟨#[]⟩⟩ Ap cp none 0 HF0.out HR0.out (by omega) (fun h => by have := hlts _ h; omega) hgO hbt HP0.out hcp hpB (Kd.F_nil _ _ _) (Nat.le_refl _) (by show P.sumP [] ≤ _; have : P.sumP [] = 0 := rfl; omega) (by show (0 : Nat) ≤ _; omega) htl
  rw [HRES.out] at hc
  refine (show Calls Tryd.prog 47 #[.pointer (some ⟨g, 0, none⟩), .int .u8 2, .pointer (some ⟨w.heap.size, 0, none⟩)] W0 _ from hc).mono ?_
  clear hc
  rintro e w1 ⟨rfl, ⟨tb', htb, hfs1⟩, hr1, ho1⟩
  unfold reqCells at hr1
  have HF1 := Lib.hid hfs1
  have HR1 := Lib.hid hr1
  have HO1 := Lib.hid ho1
  have HTB := Lib.hid htb
  have hs1 := ho1.size
  clear hfs1 hr1 ho1 htb
  have lr0 := cell_of (j := 0) HR1.out rfl
  have lr1 := cell_of (j := 1) HR1.out rfl
  have lr2 := cell_of (j := 2) HR1.out rfl
  have lr3 := cell_of (j := 3) HR1.out rfl
  have lr4 := cell_of (j := 4) HR1.out rfl
  go_wp2_with fail
  go_ret2
  exact ⟨rfl, fsPost_lift HFS.out HB0.out (fun k hk h => by rcases h with h | h | h; (· exact .inl h); (· omega); (· exact .inr h)) HTB.out HF1.out HO1.out⟩
set_option maxHeartbeats 4000000 in
set_option maxRecDepth 100000 in
theorem create_api (w : World) (g : Nat) (O : Nat → Prop) (tb : Option Nat) (f : FsV) (hfs : FsAt w g O tb f) (hgO : ¬ O g) (hbt : f.tree.bulk ≤ 100000000) (htl : f.trace.length ≤ 2000000) (Ap : Option Addr) (cp : Nat) (p : List ByteArray) (HP : PathAt w g tb Ap p) (hcp : p.length ≤ cp) (hpB : P.sumP p ≤ 1099511627776) :
    Calls Tryd.prog 27 #[.pointer (some ⟨g, 0, none⟩), .slice Ap p.length cp] w fun e w' => e = .returned (.int .i64 (callV f 3 ⟨p, [], ⟨#[]⟩⟩).2.2) ∧ FsPost w g O tb (callV f 3 ⟨p, [], ⟨#[]⟩⟩).1 w' := by
  have hb0 := below_alloc (Below.refl w.heap.size w) (.cells #[.slice Ap p.length cp, .slice none 0 0, .string ⟨#[]⟩, .int .u8 0, .int .i64 0] 94)
  have hgl := hfs.lt
  have hlts := hfs.lts
  have HFS := Lib.hid hfs
  have HF0 := Lib.hid (hfs.below hb0)
  have HR0 := Lib.hid (blk_new w (.cells #[.slice Ap p.length cp, .slice none 0 0, .string ⟨#[]⟩, .int .u8 0, .int .i64 0] 94))
  have HP0 := Lib.hid (pathAt_req (r := w.heap.size) HP hb0 (by omega))
  have hs0 := hb0.size
  have HB0 := Lib.hid hb0
  obtain ⟨⟨f', tl, wy⟩, hres⟩ : ∃ r, callV f 3 ⟨p, [], ⟨#[]⟩⟩ = r := ⟨_, rfl⟩
  have HRES := Lib.hid hres
  rw [hres]
  clear hres hfs HP hb0
  go_enter Tryd.func27, Tryd.ntmps27
  go_wp2_with fail
  generalize (w.alloc (.cells #[.slice Ap p.length cp, .slice none 0 0, .string ⟨#[]⟩, .int .u8 0, .int .i64 0] 94)) = W0 at *
  have hc := call_fs 3 (by omega) (by omega) W0 g w.heap.size O tb f ⟨p, [], ⟨#[]⟩⟩ Ap cp none 0 HF0.out HR0.out (by omega) (fun h => by have := hlts _ h; omega) hgO hbt HP0.out hcp hpB (Kd.F_nil _ _ _) (Nat.le_refl _) (by show P.sumP [] ≤ _; have : P.sumP [] = 0 := rfl; omega) (by show (0 : Nat) ≤ _; omega) htl
  rw [HRES.out] at hc
  refine (show Calls Tryd.prog 47 #[.pointer (some ⟨g, 0, none⟩), .int .u8 3, .pointer (some ⟨w.heap.size, 0, none⟩)] W0 _ from hc).mono ?_
  clear hc
  rintro e w1 ⟨rfl, ⟨tb', htb, hfs1⟩, hr1, ho1⟩
  unfold reqCells at hr1
  have HF1 := Lib.hid hfs1
  have HR1 := Lib.hid hr1
  have HO1 := Lib.hid ho1
  have HTB := Lib.hid htb
  have hs1 := ho1.size
  clear hfs1 hr1 ho1 htb
  go_wp2_with fail
  go_ret
  exact ⟨rfl, fsPost_lift HFS.out HB0.out (fun k hk h => by rcases h with h | h | h; (· exact .inl h); (· omega); (· exact .inr h)) HTB.out HF1.out HO1.out⟩
set_option maxHeartbeats 4000000 in
set_option maxRecDepth 100000 in
theorem append_api (w : World) (g : Nat) (O : Nat → Prop) (tb : Option Nat) (f : FsV) (hfs : FsAt w g O tb f) (hgO : ¬ O g) (hbt : f.tree.bulk ≤ 100000000) (htl : f.trace.length ≤ 2000000) (Ap : Option Addr) (cp : Nat) (p : List ByteArray) (HP : PathAt w g tb Ap p) (hcp : p.length ≤ cp) (hpB : P.sumP p ≤ 1099511627776) (d : ByteArray) (hd : d.size ≤ 100000000) :
    Calls Tryd.prog 28 #[.pointer (some ⟨g, 0, none⟩), .slice Ap p.length cp, .string d] w fun e w' => e = .returned (.int .i64 (callV f 4 ⟨p, [], d⟩).2.2) ∧ FsPost w g O tb (callV f 4 ⟨p, [], d⟩).1 w' := by
  have hb0 := below_alloc (Below.refl w.heap.size w) (.cells #[.slice Ap p.length cp, .slice none 0 0, .string d, .int .u8 0, .int .i64 0] 94)
  have hgl := hfs.lt
  have hlts := hfs.lts
  have HFS := Lib.hid hfs
  have HF0 := Lib.hid (hfs.below hb0)
  have HR0 := Lib.hid (blk_new w (.cells #[.slice Ap p.length cp, .slice none 0 0, .string d, .int .u8 0, .int .i64 0] 94))
  have HP0 := Lib.hid (pathAt_req (r := w.heap.size) HP hb0 (by omega))
  have hs0 := hb0.size
  have HB0 := Lib.hid hb0
  obtain ⟨⟨f', tl, wy⟩, hres⟩ : ∃ r, callV f 4 ⟨p, [], d⟩ = r := ⟨_, rfl⟩
  have HRES := Lib.hid hres
  rw [hres]
  clear hres hfs HP hb0
  go_enter Tryd.func28, Tryd.ntmps28
  go_wp2_with fail
  generalize (w.alloc (.cells #[.slice Ap p.length cp, .slice none 0 0, .string d, .int .u8 0, .int .i64 0] 94)) = W0 at *
  have hc := call_fs 4 (by omega) (by omega) W0 g w.heap.size O tb f ⟨p, [], d⟩ Ap cp none 0 HF0.out HR0.out (by omega) (fun h => by have := hlts _ h; omega) hgO hbt HP0.out hcp hpB (Kd.F_nil _ _ _) (Nat.le_refl _) (by show P.sumP [] ≤ _; have : P.sumP [] = 0 := rfl; omega) hd htl
  rw [HRES.out] at hc
  refine (show Calls Tryd.prog 47 #[.pointer (some ⟨g, 0, none⟩), .int .u8 4, .pointer (some ⟨w.heap.size, 0, none⟩)] W0 _ from hc).mono ?_
  clear hc
  rintro e w1 ⟨rfl, ⟨tb', htb, hfs1⟩, hr1, ho1⟩
  unfold reqCells at hr1
  have HF1 := Lib.hid hfs1
  have HR1 := Lib.hid hr1
  have HO1 := Lib.hid ho1
  have HTB := Lib.hid htb
  have hs1 := ho1.size
  clear hfs1 hr1 ho1 htb
  go_wp2_with fail
  go_ret
  exact ⟨rfl, fsPost_lift HFS.out HB0.out (fun k hk h => by rcases h with h | h | h; (· exact .inl h); (· omega); (· exact .inr h)) HTB.out HF1.out HO1.out⟩
set_option maxHeartbeats 4000000 in
set_option maxRecDepth 100000 in
theorem rename_api (w : World) (g : Nat) (O : Nat → Prop) (tb : Option Nat) (f : FsV) (hfs : FsAt w g O tb f) (hgO : ¬ O g) (hbt : f.tree.bulk ≤ 100000000) (htl : f.trace.length ≤ 2000000) (Ap : Option Addr) (cp : Nat) (p : List ByteArray) (HP : PathAt w g tb Ap p) (hcp : p.length ≤ cp) (hpB : P.sumP p ≤ 1099511627776) (Aq : Option Addr) (cq : Nat) (q : List ByteArray) (HQ : PathAt w g tb Aq q) (hcq : q.length ≤ cq) (hqB : P.sumP q ≤ 1099511627776) :
    Calls Tryd.prog 30 #[.pointer (some ⟨g, 0, none⟩), .slice Ap p.length cp, .slice Aq q.length cq] w fun e w' => e = .returned (.int .i64 (callV f 5 ⟨p, q, ⟨#[]⟩⟩).2.2) ∧ FsPost w g O tb (callV f 5 ⟨p, q, ⟨#[]⟩⟩).1 w' := by
  have hb0 := below_alloc (Below.refl w.heap.size w) (.cells #[.slice Ap p.length cp, .slice Aq q.length cq, .string ⟨#[]⟩, .int .u8 0, .int .i64 0] 94)
  have hgl := hfs.lt
  have hlts := hfs.lts
  have HFS := Lib.hid hfs
  have HF0 := Lib.hid (hfs.below hb0)
  have HR0 := Lib.hid (blk_new w (.cells #[.slice Ap p.length cp, .slice Aq q.length cq, .string ⟨#[]⟩, .int .u8 0, .int .i64 0] 94))
  have HP0 := Lib.hid (pathAt_req (r := w.heap.size) HP hb0 (by omega))
  have hs0 := hb0.size
  have HB0 := Lib.hid hb0
  have HQ0 := Lib.hid (pathAt_req (r := w.heap.size) HQ hb0 (by omega))
  clear HQ
  obtain ⟨⟨f', tl, wy⟩, hres⟩ : ∃ r, callV f 5 ⟨p, q, ⟨#[]⟩⟩ = r := ⟨_, rfl⟩
  have HRES := Lib.hid hres
  rw [hres]
  clear hres hfs HP hb0
  go_enter Tryd.func30, Tryd.ntmps30
  go_wp2_with fail
  generalize (w.alloc (.cells #[.slice Ap p.length cp, .slice Aq q.length cq, .string ⟨#[]⟩, .int .u8 0, .int .i64 0] 94)) = W0 at *
  have hc := call_fs 5 (by omega) (by omega) W0 g w.heap.size O tb f ⟨p, q, ⟨#[]⟩⟩ Ap cp Aq cq HF0.out HR0.out (by omega) (fun h => by have := hlts _ h; omega) hgO hbt HP0.out hcp hpB HQ0.out hcq hqB (by show (0 : Nat) ≤ _; omega) htl
  rw [HRES.out] at hc
  refine (show Calls Tryd.prog 47 #[.pointer (some ⟨g, 0, none⟩), .int .u8 5, .pointer (some ⟨w.heap.size, 0, none⟩)] W0 _ from hc).mono ?_
  clear hc
  rintro e w1 ⟨rfl, ⟨tb', htb, hfs1⟩, hr1, ho1⟩
  unfold reqCells at hr1
  have HF1 := Lib.hid hfs1
  have HR1 := Lib.hid hr1
  have HO1 := Lib.hid ho1
  have HTB := Lib.hid htb
  have hs1 := ho1.size
  clear hfs1 hr1 ho1 htb
  go_wp2_with fail
  go_ret
  exact ⟨rfl, fsPost_lift HFS.out HB0.out (fun k hk h => by rcases h with h | h | h; (· exact .inl h); (· omega); (· exact .inr h)) HTB.out HF1.out HO1.out⟩
/-- Calls. -/
theorem calls_api (w : World) (g : Nat) (O : Nat → Prop) (tb : Option Nat) (f : FsV) (hfs : FsAt w g O tb f) :
    Calls Tryd.prog 21 #[.pointer (some ⟨g, 0, none⟩)] w fun e w' => e = .returned (.int .i64 f.trace.length) ∧ w' = w := by
  obtain ⟨A, c, v, m, lo, hi, hbox, hle, hiv, hsep, htr, htb, hfl, hOm, hOlt⟩ := hfs
  unfold fsCells at hbox
  obtain ⟨AT, ct, rfl⟩ := Kd.R_slice htr
  have HB := Lib.hid hbox
  clear hbox hiv hsep htr htb hfl hOm hOlt
  go_enter Tryd.func21, Tryd.ntmps21
  have l1 := cell_of (j := 4) HB.out rfl
  go_wp2_with fail
  go_ret
  exact ⟨rfl, rfl⟩
end Go.Proofs.YthlcjjhfkldmhaaDoor.G
