/- The methods over a region S of blocks that holds a whole file system. Printed by wip/tools/gen_vin.py. -/
import Derived.Test.YthlcjjhfkldmhaaDoorVFaultP
import Derived.Test.YthlcjjhfkldmhaaDoorVNew
set_option linter.unusedVariables false
set_option linter.unusedSimpArgs false
namespace Go.Proofs.YthlcjjhfkldmhaaDoor.G
open Go.RowKit Go.Lib Go.Proofs.YthlcjjhfkldmhaaDoorW.PrintWords Go.Proofs.YthlcjjhfkldmhaaDoorW.PrintLast
set_option linter.unusedVariables false

/-- The file system f at block g; all that it leads to lies in S. -/
def FsIn (S : Nat → Prop) (w : World) (g : Nat) (f : FsV) : Prop := ∃ O tb, FsAt w g O tb f ∧ ¬ O g ∧ S g ∧ ∀ k, O k → S k
/-- S and what has been made since. -/
def Grown (S : Nat → Prop) (w w' : World) (k : Nat) : Prop := S k ∨ w.heap.size ≤ k ∧ k < w'.heap.size
theorem fs_tb {w : World} {g : Nat} {O : Nat → Prop} {tb : Option Nat} {f : FsV} (h : FsAt w g O tb f) : ∀ k, tb = some k → O k := by
  obtain ⟨A, c, v, m, lo, hi, _, _, _, _, h5, h6, _⟩ := h
  exact fun k e => ((Kd.R_bound h5).1 k (h6.trans e)).1
theorem FsIn.keep {S F : Nat → Prop} {w w' : World} {g : Nat} {f : FsV} (h : FsIn S w g f) (ho : Only F w w') (hd : ∀ k, S k → ¬ F k) : FsIn S w' g f := by
  obtain ⟨O, tb, h1, h2, h3, h4⟩ := h
  exact ⟨O, tb, h1.keep (fun k hk => ho.block k (hk.elim (fun e => e ▸ h1.lt) (h1.lts k)) (hd k (hk.elim (fun e => e ▸ h3) (h4 k)))) ho.size, h2, h3, h4⟩
theorem FsIn.below {S : Nat → Prop} {w w' : World} {g : Nat} {f : FsV} (h : FsIn S w g f) (hb : Below w.heap.size w w') : FsIn S w' g f := by
  obtain ⟨O, tb, h1, h2, h3, h4⟩ := h
  exact ⟨O, tb, h1.below hb, h2, h3, h4⟩
theorem FsIn.mono {S T : Nat → Prop} {w : World} {g : Nat} {f : FsV} (h : FsIn S w g f) (hS : ∀ k, S k → T k) : FsIn T w g f := by
  obtain ⟨O, tb, h1, h2, h3, h4⟩ := h
  exact ⟨O, tb, h1, h2, hS _ h3, fun k hk => hS k (h4 k hk)⟩
theorem fsIn_post {S : Nat → Prop} {w w' : World} {g : Nat} {O : Nat → Prop} {tb : Option Nat} {f f' : FsV} (hfs : FsAt w g O tb f) (hg : ¬ O g) (hS : S g) (hO : ∀ k, O k → S k) (h : FsPost w g O tb f' w') : FsIn (Grown S w w') w' g f' ∧ Only S w w' := by
  obtain ⟨⟨tb', h1, h2⟩, h3⟩ := h
  have hl := hfs.lt
  refine ⟨⟨_, tb', h2, fun h => h.elim hg fun h => by omega, .inl hS, fun k hk => hk.imp (hO k) id⟩, h3.mono fun k _ hk => ?_⟩
  rcases hk with h | h
  · exact h ▸ hS
  · exact hO k (fs_tb hfs k h)
theorem path_in {S : Nat → Prop} {w : World} {g : Nat} {O : Nat → Prop} {tb : Option Nat} {f : FsV} {A : Option Addr} {p : List ByteArray} (hfs : FsAt w g O tb f) (hS : S g) (hO : ∀ k, O k → S k) (h : Kd.F Kd.string w (fun k => ¬ S k) A p.length p) : PathAt w g tb A p :=
  Kd.F_mono h fun k hk => ⟨fun e => hk (e ▸ hS), fun e => hk (hO k (fs_tb hfs k e))⟩
theorem new_in (t : File) (A : Option Addr) (c : Nat) (Al : Option Addr) (cl : Nat) (l : List Int) (w : World) (ht : FileK.C w A t.files.length t.files) (hc : t.files.length ≤ c) (hbt : t.bulk ≤ 1099511627776) (hl : Kd.C (Kd.int .i64) w Al l.length l) (hcl : l.length ≤ cl) (hll : l.length ≤ 1099511627776) :
    Calls Tryd.prog 19 #[fileV t A c, .slice Al l.length cl] w fun e w' => (rightT t = false ∧ e = .returned (.tuple #[.pointer none, .int .i64 30]) ∧ Below w.heap.size w w') ∨ (rightT t = true ∧ ∃ g, e = .returned (.tuple #[.pointer (some ⟨g, 0, none⟩), .int .i64 0]) ∧ FsIn (fun k => w.heap.size ≤ k ∧ k < w'.heap.size) w' g ⟨t, [], l⟩ ∧ Below w.heap.size w w') := by
  refine (new_calls t A c Al cl l w ht hc hbt hl hcl hll).mono ?_
  rintro e w' (h | ⟨h1, g, h2, h3, h4, h5⟩)
  · exact .inl h
  · exact .inr ⟨h1, g, h2, ⟨_, none, h3, fun h => h.2.1 rfl, ⟨h4, h3.lt⟩, fun k hk => ⟨hk.1, hk.2.2⟩⟩, h5⟩
theorem calls_in (w : World) (g : Nat) (S : Nat → Prop) (f : FsV) (h : FsIn S w g f) :
    Calls Tryd.prog 21 #[.pointer (some ⟨g, 0, none⟩)] w fun e w' => e = .returned (.int .i64 f.trace.length) ∧ w' = w := by
  obtain ⟨O, tb, h1, _⟩ := h
  exact calls_api w g O tb f h1
theorem tree_in (w : World) (g : Nat) (S : Nat → Prop) (f : FsV) (h : FsIn S w g f) (hbt : f.tree.bulk ≤ 1099511627776) :
    Calls Tryd.prog 23 #[.pointer (some ⟨g, 0, none⟩)] w fun e w' => ∃ A c, e = .returned (fileV f.tree A c) ∧ f.tree.files.length ≤ c ∧ FileK.R 25 w' w.heap.size (fun _ => True) (.slice A f.tree.files.length c) f.tree.files ∧ Below w.heap.size w w' := by
  obtain ⟨O, tb, h1, _⟩ := h
  exact tree_api w g O tb f h1 hbt
theorem read_in (w : World) (g : Nat) (S : Nat → Prop) (f : FsV) (h : FsIn S w g f) (hbt : f.tree.bulk ≤ 100000000) (htl : f.trace.length ≤ 2000000) (Ap : Option Addr) (cp : Nat) (p : List ByteArray) (HP : Kd.F Kd.string w (fun k => ¬ S k) Ap p.length p) (hcp : p.length ≤ cp) (hpB : P.sumP p ≤ 1099511627776) :
    Calls Tryd.prog 29 #[.pointer (some ⟨g, 0, none⟩), .slice Ap p.length cp] w fun e w' => e = .returned (.tuple #[.string (callV f 2 ⟨p, [], ⟨#[]⟩⟩).2.1.data, .int .i64 (callV f 2 ⟨p, [], ⟨#[]⟩⟩).2.2]) ∧ FsIn (Grown S w w') w' g (callV f 2 ⟨p, [], ⟨#[]⟩⟩).1 ∧ Only S w w' := by
  obtain ⟨O, tb, h1, h2, h3, h4⟩ := h
  refine (read_api w g O tb f h1 h2 hbt htl Ap cp p (path_in h1 h3 h4 HP) hcp hpB).mono fun e w' hp => ⟨hp.1, fsIn_post h1 h2 h3 h4 hp.2⟩
theorem append_in (w : World) (g : Nat) (S : Nat → Prop) (f : FsV) (h : FsIn S w g f) (hbt : f.tree.bulk ≤ 100000000) (htl : f.trace.length ≤ 2000000) (Ap : Option Addr) (cp : Nat) (p : List ByteArray) (HP : Kd.F Kd.string w (fun k => ¬ S k) Ap p.length p) (hcp : p.length ≤ cp) (hpB : P.sumP p ≤ 1099511627776) (d : ByteArray) (hd : d.size ≤ 100000000) :
    Calls Tryd.prog 28 #[.pointer (some ⟨g, 0, none⟩), .slice Ap p.length cp, .string d] w fun e w' => e = .returned (.int .i64 (callV f 4 ⟨p, [], d⟩).2.2) ∧ FsIn (Grown S w w') w' g (callV f 4 ⟨p, [], d⟩).1 ∧ Only S w w' := by
  obtain ⟨O, tb, h1, h2, h3, h4⟩ := h
  refine (append_api w g O tb f h1 h2 hbt htl Ap cp p (path_in h1 h3 h4 HP) hcp hpB d hd).mono fun e w' hp => ⟨hp.1, fsIn_post h1 h2 h3 h4 hp.2⟩
theorem do_in (w : World) (g : Nat) (S : Nat → Prop) (f : FsV) (h : FsIn S w g f) (hbt : f.tree.bulk ≤ 100000000) (htl : f.trace.length ≤ 2000000) (x : Step) (A B : Option Addr) (c d : Nat) (HP : Kd.F Kd.string w (fun k => ¬ S k) A x.path.length x.path) (hc : x.path.length ≤ c) (hpB : P.sumP x.path ≤ 1099511627776) (HQ : Kd.F Kd.string w (fun k => ¬ S k) B x.dest.length x.dest) (hd : x.dest.length ≤ d) (hqB : P.sumP x.dest ≤ 1099511627776) (hdb : x.data.size ≤ 100000000) :
    Calls Tryd.prog 22 #[.pointer (some ⟨g, 0, none⟩), .agg #[.int .u8 x.kind, .slice A x.path.length c, .slice B x.dest.length d, .string x.data]] w fun e w' => e = .returned (.tuple #[.agg #[.int .u8 (doV f x).2.1.kind, .int .i64 (doV f x).2.1.size, .string (doV f x).2.1.data], .int .i64 (doV f x).2.2]) ∧ FsIn (Grown S w w') w' g (doV f x).1 ∧ Only S w w' := by
  obtain ⟨O, tb, h1, h2, h3, h4⟩ := h
  refine (do_calls w g O tb f h1 h2 hbt htl x A B c d (path_in h1 h3 h4 HP) hc hpB (path_in h1 h3 h4 HQ) hd hqB hdb).mono fun e w' hp => ⟨hp.1, fsIn_post h1 h2 h3 h4 hp.2⟩
/-- A list of texts in a box. -/
theorem C_of_boxV {W : World} {g : Nat} {cells : Array Value} {l : List ByteArray} (h : W.heap[g]? = some (.cells cells 9 (0, 0))) (hl : cells.toList = l.map Value.string) (hn : l.length ≤ 1048576) : Kd.C Kd.string W (some ⟨g, 0, none⟩) l.length l := by
  refine Kd.C_of_reads (d := ByteArray.empty) (h1 := fun _ => rfl) ⟨rfl, by omega, fun _ => ⟨_, rfl, fun j hj => ?_⟩⟩
  have hz : cells[j]? = some (.string (l.getD j ByteArray.empty)) := by
    rw [← Array.getElem?_toList, hl, List.getElem?_map, List.getElem?_eq_getElem hj]
    simp [List.getD, hj]
  rcases Nat.eq_zero_or_pos j with rfl | h0
  · simpa [Addr.add, World.cell?, h] using hz
  · have hj0 : ¬ j = 0 := by omega
    simpa [Addr.add, World.cell?, h, hj0] using hz
theorem F_of_box {W : World} {g : Nat} {cells : Array Value} {l : List ByteArray} {ok : Nat → Prop} (h : W.heap[g]? = some (.cells cells 9 (0, 0))) (hl : cells.toList = l.map Value.string) (hn : l.length ≤ 1048576) (hok : ok g) : Kd.F Kd.string W ok (some ⟨g, 0, none⟩) l.length l :=
  fun W' hW => C_of_boxV ((hW g hok (blk_lt h)).trans h) hl hn
end Go.Proofs.YthlcjjhfkldmhaaDoor.G
