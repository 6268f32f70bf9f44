/- The calls of VfsTexts, walked: contracts over one file system in a region. -/
import Derived.Test.YthlcjjhfkldmhaaDoorVDo
import Derived.Test.YthlcjjhfkldmhaaDoorVNew
import Derived.Test.YthlcjjhfkldmhaaDoorVTextC
set_option linter.unusedVariables false
set_option linter.unusedSimpArgs false
section
namespace Go.Proofs.YthlcjjhfkldmhaaDoor.G
open Go.RowKit Go.Lib Go.Proofs.YthlcjjhfkldmhaaDoorW.PrintWords Go.Proofs.YthlcjjhfkldmhaaDoorW.PrintLast
set_option linter.unusedVariables false

/-- The file system f at block g; all that it leads to lies in S. -/
def FsIn (S : Nat → Prop) (w : World) (g : Nat) (f : FsV) : Prop := ∃ O tb, FsAt w g O tb f ∧ ¬ O g ∧ S g ∧ ∀ k, O k → S k
/-- S and what has been made since. -/
def Grown (S : Nat → Prop) (w w' : World) (k : Nat) : Prop := S k ∨ w.heap.size ≤ k ∧ k < w'.heap.size
theorem fs_tb {w : World} {g : Nat} {O : Nat → Prop} {tb : Option Nat} {f : FsV} (h : FsAt w g O tb f) : ∀ k, tb = some k → O k := by
  obtain ⟨A, c, v, m, lo, hi, _, _, _, _, h5, h6, _⟩ := h
  exact fun k e => ((Kd.R_bound h5).1 k (h6.trans e)).1
theorem FsIn.keep {S F : Nat → Prop} {w w' : World} {g : Nat} {f : FsV} (h : FsIn S w g f) (ho : Only F w w') (hd : ∀ k, S k → ¬ F k) : FsIn S w' g f := by
  obtain ⟨O, tb, h1, h2, h3, h4⟩ := h
  exact ⟨O, tb, h1.keep (fun k hk => ho.block k (hk.elim (fun e => e ▸ h1.lt) (h1.lts k)) (hd k (hk.elim (fun e => e ▸ h3) (h4 k)))) ho.size, h2, h3, h4⟩
theorem FsIn.below {S : Nat → Prop} {w w' : World} {g : Nat} {f : FsV} (h : FsIn S w g f) (hb : Below w.heap.size w w') : FsIn S w' g f := by
  obtain ⟨O, tb, h1, h2, h3, h4⟩ := h
  exact ⟨O, tb, h1.below hb, h2, h3, h4⟩
theorem FsIn.mono {S T : Nat → Prop} {w : World} {g : Nat} {f : FsV} (h : FsIn S w g f) (hS : ∀ k, S k → T k) : FsIn T w g f := by
  obtain ⟨O, tb, h1, h2, h3, h4⟩ := h
  exact ⟨O, tb, h1, h2, hS _ h3, fun k hk => hS k (h4 k hk)⟩
theorem fsIn_post {S : Nat → Prop} {w w' : World} {g : Nat} {O : Nat → Prop} {tb : Option Nat} {f f' : FsV} (hfs : FsAt w g O tb f) (hg : ¬ O g) (hS : S g) (hO : ∀ k, O k → S k) (h : FsPost w g O tb f' w') : FsIn (Grown S w w') w' g f' ∧ Only S w w' := by
  obtain ⟨⟨tb', h1, h2⟩, h3⟩ := h
  have hl := hfs.lt
  refine ⟨⟨_, tb', h2, fun h => h.elim hg fun h => by omega, .inl hS, fun k hk => hk.imp (hO k) id⟩, h3.mono fun k _ hk => ?_⟩
  rcases hk with h | h
  · exact h ▸ hS
  · exact hO k (fs_tb hfs k h)
theorem path_in {S : Nat → Prop} {w : World} {g : Nat} {O : Nat → Prop} {tb : Option Nat} {f : FsV} {A : Option Addr} {p : List ByteArray} (hfs : FsAt w g O tb f) (hS : S g) (hO : ∀ k, O k → S k) (h : Kd.F Kd.string w (fun k => ¬ S k) A p.length p) : PathAt w g tb A p :=
  Kd.F_mono h fun k hk => ⟨fun e => hk (e ▸ hS), fun e => hk (hO k (fs_tb hfs k e))⟩
theorem new_in (t : File) (A : Option Addr) (c : Nat) (Al : Option Addr) (cl : Nat) (l : List Int) (w : World) (ht : FileK.C w A t.files.length t.files) (hc : t.files.length ≤ c) (hbt : t.bulk ≤ 1099511627776) (hl : Kd.C (Kd.int .i64) w Al l.length l) (hcl : l.length ≤ cl) (hll : l.length ≤ 1099511627776) :
    Calls Tryd.prog 19 #[fileV t A c, .slice Al l.length cl] w fun e w' => (rightT t = false ∧ e = .returned (.tuple #[.pointer none, .int .i64 30]) ∧ Below w.heap.size w w') ∨ (rightT t = true ∧ ∃ g, e = .returned (.tuple #[.pointer (some ⟨g, 0, none⟩), .int .i64 0]) ∧ FsIn (fun k => w.heap.size ≤ k ∧ k < w'.heap.size) w' g ⟨t, [], l⟩ ∧ Below w.heap.size w w') := by
  refine (new_calls t A c Al cl l w ht hc hbt hl hcl hll).mono ?_
  rintro e w' (h | ⟨h1, g, h2, h3, h4, h5⟩)
  · exact .inl h
  · exact .inr ⟨h1, g, h2, ⟨_, none, h3, fun h => h.2.1 rfl, ⟨h4, h3.lt⟩, fun k hk => ⟨hk.1, hk.2.2⟩⟩, h5⟩
theorem calls_in (w : World) (g : Nat) (S : Nat → Prop) (f : FsV) (h : FsIn S w g f) :
    Calls Tryd.prog 21 #[.pointer (some ⟨g, 0, none⟩)] w fun e w' => e = .returned (.int .i64 f.trace.length) ∧ w' = w := by
  obtain ⟨O, tb, h1, _⟩ := h
  exact calls_api w g O tb f h1
theorem tree_in (w : World) (g : Nat) (S : Nat → Prop) (f : FsV) (h : FsIn S w g f) (hbt : f.tree.bulk ≤ 1099511627776) :
    Calls Tryd.prog 23 #[.pointer (some ⟨g, 0, none⟩)] w fun e w' => ∃ A c, e = .returned (fileV f.tree A c) ∧ f.tree.files.length ≤ c ∧ FileK.R 25 w' w.heap.size (fun _ => True) (.slice A f.tree.files.length c) f.tree.files ∧ Below w.heap.size w w' := by
  obtain ⟨O, tb, h1, _⟩ := h
  exact tree_api w g O tb f h1 hbt
theorem lstat_in (w : World) (g : Nat) (S : Nat → Prop) (f : FsV) (h : FsIn S w g f) (hbt : f.tree.bulk ≤ 100000000) (htl : f.trace.length ≤ 2000000) (Ap : Option Addr) (cp : Nat) (p : List ByteArray) (HP : Kd.F Kd.string w (fun k => ¬ S k) Ap p.length p) (hcp : p.length ≤ cp) (hpB : P.sumP p ≤ 1099511627776) :
    Calls Tryd.prog 31 #[.pointer (some ⟨g, 0, none⟩), .slice Ap p.length cp] w fun e w' => e = .returned (.tuple #[.agg #[.int .u8 (callV f 1 ⟨p, [], ⟨#[]⟩⟩).2.1.kind, .int .i64 (callV f 1 ⟨p, [], ⟨#[]⟩⟩).2.1.size], .int .i64 (callV f 1 ⟨p, [], ⟨#[]⟩⟩).2.2]) ∧ FsIn (Grown S w w') w' g (callV f 1 ⟨p, [], ⟨#[]⟩⟩).1 ∧ Only S w w' := by
  obtain ⟨O, tb, h1, h2, h3, h4⟩ := h
  refine (lstat_api w g O tb f h1 h2 hbt htl Ap cp p (path_in h1 h3 h4 HP) hcp hpB).mono fun e w' hp => ⟨hp.1, fsIn_post h1 h2 h3 h4 hp.2⟩
theorem read_in (w : World) (g : Nat) (S : Nat → Prop) (f : FsV) (h : FsIn S w g f) (hbt : f.tree.bulk ≤ 100000000) (htl : f.trace.length ≤ 2000000) (Ap : Option Addr) (cp : Nat) (p : List ByteArray) (HP : Kd.F Kd.string w (fun k => ¬ S k) Ap p.length p) (hcp : p.length ≤ cp) (hpB : P.sumP p ≤ 1099511627776) :
    Calls Tryd.prog 29 #[.pointer (some ⟨g, 0, none⟩), .slice Ap p.length cp] w fun e w' => e = .returned (.tuple #[.string (callV f 2 ⟨p, [], ⟨#[]⟩⟩).2.1.data, .int .i64 (callV f 2 ⟨p, [], ⟨#[]⟩⟩).2.2]) ∧ FsIn (Grown S w w') w' g (callV f 2 ⟨p, [], ⟨#[]⟩⟩).1 ∧ Only S w w' := by
  obtain ⟨O, tb, h1, h2, h3, h4⟩ := h
  refine (read_api w g O tb f h1 h2 hbt htl Ap cp p (path_in h1 h3 h4 HP) hcp hpB).mono fun e w' hp => ⟨hp.1, fsIn_post h1 h2 h3 h4 hp.2⟩
theorem create_in (w : World) (g : Nat) (S : Nat → Prop) (f : FsV) (h : FsIn S w g f) (hbt : f.tree.bulk ≤ 100000000) (htl : f.trace.length ≤ 2000000) (Ap : Option Addr) (cp : Nat) (p : List ByteArray) (HP : Kd.F Kd.string w (fun k => ¬ S k) Ap p.length p) (hcp : p.length ≤ cp) (hpB : P.sumP p ≤ 1099511627776) :
    Calls Tryd.prog 27 #[.pointer (some ⟨g, 0, none⟩), .slice Ap p.length cp] w fun e w' => e = .returned (.int .i64 (callV f 3 ⟨p, [], ⟨#[]⟩⟩).2.2) ∧ FsIn (Grown S w w') w' g (callV f 3 ⟨p, [], ⟨#[]⟩⟩).1 ∧ Only S w w' := by
  obtain ⟨O, tb, h1, h2, h3, h4⟩ := h
  refine (create_api w g O tb f h1 h2 hbt htl Ap cp p (path_in h1 h3 h4 HP) hcp hpB).mono fun e w' hp => ⟨hp.1, fsIn_post h1 h2 h3 h4 hp.2⟩
theorem append_in (w : World) (g : Nat) (S : Nat → Prop) (f : FsV) (h : FsIn S w g f) (hbt : f.tree.bulk ≤ 100000000) (htl : f.trace.length ≤ 2000000) (Ap : Option Addr) (cp : Nat) (p : List ByteArray) (HP : Kd.F Kd.string w (fun k => ¬ S k) Ap p.length p) (hcp : p.length ≤ cp) (hpB : P.sumP p ≤ 1099511627776) (d : ByteArray) (hd : d.size ≤ 100000000) :
    Calls Tryd.prog 28 #[.pointer (some ⟨g, 0, none⟩), .slice Ap p.length cp, .string d] w fun e w' => e = .returned (.int .i64 (callV f 4 ⟨p, [], d⟩).2.2) ∧ FsIn (Grown S w w') w' g (callV f 4 ⟨p, [], d⟩).1 ∧ Only S w w' := by
  obtain ⟨O, tb, h1, h2, h3, h4⟩ := h
  refine (append_api w g O tb f h1 h2 hbt htl Ap cp p (path_in h1 h3 h4 HP) hcp hpB d hd).mono fun e w' hp => ⟨hp.1, fsIn_post h1 h2 h3 h4 hp.2⟩
theorem rename_in (w : World) (g : Nat) (S : Nat → Prop) (f : FsV) (h : FsIn S w g f) (hbt : f.tree.bulk ≤ 100000000) (htl : f.trace.length ≤ 2000000) (Ap : Option Addr) (cp : Nat) (p : List ByteArray) (HP : Kd.F Kd.string w (fun k => ¬ S k) Ap p.length p) (hcp : p.length ≤ cp) (hpB : P.sumP p ≤ 1099511627776) (Aq : Option Addr) (cq : Nat) (q : List ByteArray) (HQ : Kd.F Kd.string w (fun k => ¬ S k) Aq q.length q) (hcq : q.length ≤ cq) (hqB : P.sumP q ≤ 1099511627776) :
    Calls Tryd.prog 30 #[.pointer (some ⟨g, 0, none⟩), .slice Ap p.length cp, .slice Aq q.length cq] w fun e w' => e = .returned (.int .i64 (callV f 5 ⟨p, q, ⟨#[]⟩⟩).2.2) ∧ FsIn (Grown S w w') w' g (callV f 5 ⟨p, q, ⟨#[]⟩⟩).1 ∧ Only S w w' := by
  obtain ⟨O, tb, h1, h2, h3, h4⟩ := h
  refine (rename_api w g O tb f h1 h2 hbt htl Ap cp p (path_in h1 h3 h4 HP) hcp hpB Aq cq q (path_in h1 h3 h4 HQ) hcq hqB).mono fun e w' hp => ⟨hp.1, fsIn_post h1 h2 h3 h4 hp.2⟩
/-- A list of texts in a box. -/
theorem C_of_boxV {W : World} {g : Nat} {cells : Array Value} {l : List ByteArray} (h : W.heap[g]? = some (.cells cells 9 (0, 0))) (hl : cells.toList = l.map Value.string) (hn : l.length ≤ 1048576) : Kd.C Kd.string W (some ⟨g, 0, none⟩) l.length l := by
  refine Kd.C_of_reads (d := ByteArray.empty) (h1 := fun _ => rfl) ⟨rfl, by omega, fun _ => ⟨_, rfl, fun j hj => ?_⟩⟩
  have hz : cells[j]? = some (.string (l.getD j ByteArray.empty)) := by
    rw [← Array.getElem?_toList, hl, List.getElem?_map, List.getElem?_eq_getElem hj]
    simp [List.getD, hj]
  rcases Nat.eq_zero_or_pos j with rfl | h0
  · simpa [Addr.add, World.cell?, h] using hz
  · have hj0 : ¬ j = 0 := by omega
    simpa [Addr.add, World.cell?, h, hj0] using hz
theorem F_of_box {W : World} {g : Nat} {cells : Array Value} {l : List ByteArray} {ok : Nat → Prop} (h : W.heap[g]? = some (.cells cells 9 (0, 0))) (hl : cells.toList = l.map Value.string) (hn : l.length ≤ 1048576) (hok : ok g) : Kd.F Kd.string W ok (some ⟨g, 0, none⟩) l.length l :=
  fun W' hW => C_of_boxV ((hW g hok (blk_lt h)).trans h) hl hn
end Go.Proofs.YthlcjjhfkldmhaaDoor.G
end
section
namespace Go.Proofs.YthlcjjhfkldmhaaDoor.G
open Go.RowKit Go.Lib Go.Proofs.YthlcjjhfkldmhaaDoorW.PrintWords Go.Proofs.YthlcjjhfkldmhaaDoorW.PrintLast
set_option linter.unusedVariables false
set_option linter.unusedSimpArgs false

/-- A file system apart, with a tree and no plan, behind at most k calls. -/
def TreeI (w : World) (g : Nat) (u : File) (k : Nat) (wr : World) : Prop :=
  ∃ (S : Nat → Prop) (f : FsV), FsIn S wr g f ∧ (∀ j, S j → w.heap.size ≤ j ∧ j < wr.heap.size) ∧ f.tree = u ∧ f.faults = [] ∧ f.trace.length ≤ k ∧ Below w.heap.size w wr
theorem TreeI.base {w : World} {g : Nat} {u : File} {k : Nat} {wr : World} (h : TreeI w g u k wr) : Below w.heap.size w wr := by
  obtain ⟨S, f, h1, h2, h3, h4, h5, h6⟩ := h
  exact h6
theorem TreeI.below {w : World} {g : Nat} {u : File} {k : Nat} {wr W : World} (h : TreeI w g u k wr) (hb : Below wr.heap.size wr W) : TreeI w g u k W := by
  obtain ⟨S, f, h1, h2, h3, h4, h5, h6⟩ := h
  have := hb.size
  exact ⟨S, f, h1.below hb, fun j hj => ⟨(h2 j hj).1, by have := (h2 j hj).2; omega⟩, h3, h4, h5, h6.trans (hb.mono h6.size)⟩
/-- What a call leaves. -/
theorem tree_after {w : World} {g : Nat} {S : Nat → Prop} {wr w' : World} {f' : FsV} {v : File} {k : Nat} (h2 : ∀ j, S j → w.heap.size ≤ j ∧ j < wr.heap.size) (h6 : Below w.heap.size w wr) (hf : FsIn (Grown S wr w') w' g f') (ho : Only S wr w') (hv : f'.tree = v) (hn : f'.faults = []) (hl : f'.trace.length ≤ k) : TreeI w g v k w' := by
  have hs := ho.size
  have hw := h6.size
  refine ⟨_, f', hf, fun j hj => ?_, hv, hn, hl, h6.trans (ho.below (B := w.heap.size) hw (fun j hj hS => by have := (h2 j hS).1; omega))⟩
  rcases hj with hj | hj
  · have := h2 j hj
    omega
  · omega
/-- A path of the caller's stays apart. -/
theorem path_apart {w wr : World} {A : Option Addr} {p : List ByteArray} {S : Nat → Prop} (hp : Kd.C Kd.string w A p.length p) (hb : Below w.heap.size w wr) (h2 : ∀ j, S j → w.heap.size ≤ j ∧ j < wr.heap.size) : Kd.F Kd.string wr (fun k => ¬ S k) A p.length p :=
  Kd.F_mono (Kd.F_step (Kd.C_F Kd.heap_string hp) fun j hj _ => hb.block j hj) fun j hj hS => by have := (h2 j hS).1; omega
theorem text_size {t : File} {q : List ByteArray} {s : ByteArray} (h : (putA t q (textF s)).2 = 0) : (putA t q (textF s)).1.bulk ≤ t.bulk + s.size + 259 := by
  have h1 := put_bulk_new h
  have h2 := bulk_eq (textF s)
  have h3 : bulkL (textF s).files = 0 := rfl
  have h4 : (textF s).name.size = 0 := rfl
  have h5 : (textF s).data = s := rfl
  rw [h5] at h2
  omega
theorem tcreate_calls {w wr : World} {g : Nat} {t : File} (ht : rightT t = true) (hbt : t.bulk ≤ 1048576) (hI : TreeI w g t 0 wr) (A : Option Addr) (c : Nat) (p : List ByteArray) (hp : Kd.C Kd.string w A p.length p) (hc : p.length ≤ c) (hps : P.sumP p ≤ 1048576) :
    Calls Tryd.prog 27 #[.pointer (some ⟨g, 0, none⟩), .slice A p.length c] wr fun e w' => (∃ k, k ≠ 0 ∧ e = .returned (.int .i64 k) ∧ Below w.heap.size w w') ∨ ((P.rightB p = true ∧ P.rightB [] = true) ∧ e = .returned (.int .i64 0) ∧ ∃ q n, TextAt t p q n ∧ TreeI w g (putA t q (textF ⟨#[]⟩)).1 1 w') := by
  obtain ⟨S, f, h1, h2, h3, h4, h5, h6⟩ := hI
  obtain ⟨tr, tc, fl⟩ := f
  simp only at h3 h4 h5
  subst h3 h4
  obtain rfl : tc = [] := List.length_eq_zero_iff.1 (by omega)
  refine (create_in wr g S _ h1 (by show tr.bulk ≤ _; omega) (by simp) A c p (path_apart hp h6 h2) hc (by omega)).mono ?_
  rintro e w' ⟨rfl, hf, ho⟩
  have hb : Below w.heap.size w w' := h6.trans (ho.below (B := w.heap.size) h6.size (fun j hj hS => by have := (h2 j hS).1; omega))
  by_cases h : (callV ⟨tr, [], []⟩ 3 ⟨p, [], ⟨#[]⟩⟩).2.2 = 0
  · obtain ⟨hr, q, n, T, e1, e2, e3, _⟩ := create_call tr ht p h
    exact .inr ⟨hr, by rw [h], q, n, T, tree_after h2 h6 hf ho e1 e2 (by omega)⟩
  · exact .inl ⟨_, h, rfl, hb⟩
theorem tappend_calls {w wr : World} {g : Nat} {t : File} {p q : List ByteArray} {n s : ByteArray} {k : Nat} (T : TextAt t p q n) (hbt : t.bulk ≤ 1048576) (hss : s.size ≤ 1048576) (hk : k ≤ 1500000) (hr : P.rightB p = true ∧ P.rightB [] = true) (hI : TreeI w g (putA t q (textF s)).1 k wr) (A : Option Addr) (c : Nat) (hp : Kd.C Kd.string w A p.length p) (hc : p.length ≤ c) (hps : P.sumP p ≤ 1048576) (d : ByteArray) (hd : d.size ≤ 1048576) :
    Calls Tryd.prog 28 #[.pointer (some ⟨g, 0, none⟩), .slice A p.length c, .string d] wr fun e w' => e = .returned (.int .i64 0) ∧ TreeI w g (putA t q (textF (s ++ d))).1 (k + 1) w' := by
  obtain ⟨S, f, h1, h2, h3, h4, h5, h6⟩ := hI
  have hz := text_size (T.ok s)
  refine (append_in wr g S f h1 (by rw [h3]; omega) (by omega) A c p (path_apart hp h6 h2) hc (by omega) d (by omega)).mono ?_
  rintro e w' ⟨rfl, hf, ho⟩
  have ha := append_call T hr f h4 s d h3
  rw [ha] at hf ⊢
  exact ⟨rfl, tree_after h2 h6 hf ho rfl rfl (by simp; omega)⟩
theorem tread_calls {w wr : World} {g : Nat} {t : File} {p q : List ByteArray} {n s : ByteArray} {k : Nat} (T : TextAt t p q n) (hbt : t.bulk ≤ 1048576) (hss : s.size ≤ 1048576) (hk : k ≤ 1500000) (hr : P.rightB p = true ∧ P.rightB [] = true) (hI : TreeI w g (putA t q (textF s)).1 k wr) (A : Option Addr) (c : Nat) (hp : Kd.C Kd.string w A p.length p) (hc : p.length ≤ c) (hps : P.sumP p ≤ 1048576) :
    Calls Tryd.prog 29 #[.pointer (some ⟨g, 0, none⟩), .slice A p.length c] wr fun e w' => e = .returned (.tuple #[.string s, .int .i64 0]) ∧ TreeI w g (putA t q (textF s)).1 (k + 1) w' := by
  obtain ⟨S, f, h1, h2, h3, h4, h5, h6⟩ := hI
  have hz := text_size (T.ok s)
  refine (read_in wr g S f h1 (by rw [h3]; omega) (by omega) A c p (path_apart hp h6 h2) hc (by omega)).mono ?_
  rintro e w' ⟨rfl, hf, ho⟩
  have ha := read_call T hr f h4 s h3
  rw [ha] at hf ⊢
  exact ⟨rfl, tree_after h2 h6 hf ho h3 rfl (by simp; omega)⟩
end Go.Proofs.YthlcjjhfkldmhaaDoor.G
end
