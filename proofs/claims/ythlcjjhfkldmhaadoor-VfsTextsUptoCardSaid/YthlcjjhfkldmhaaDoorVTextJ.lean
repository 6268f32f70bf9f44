/- VfsTexts: rename, and the calls behind it, where the paths lie in blocks of their own. -/
import Derived.Test.YthlcjjhfkldmhaaDoorVTextI
import Derived.Test.YthlcjjhfkldmhaaDoorVRealF
set_option linter.unusedVariables false
set_option linter.unusedSimpArgs false
namespace Go.Proofs.YthlcjjhfkldmhaaDoor.G
open Go.RowKit Go.Lib Go.Proofs.YthlcjjhfkldmhaaDoorW.PrintWords Go.Proofs.YthlcjjhfkldmhaaDoorW.PrintLast
set_option linter.unusedVariables false
set_option linter.unusedSimpArgs false

/-- As TreeI, apart from the blocks lo .. hi too. -/
def TreeQ (w : World) (g : Nat) (u : File) (k lo hi : Nat) (wr : World) : Prop :=
  ∃ (S : Nat → Prop) (f : FsV), FsIn S wr g f ∧ (∀ j, S j → w.heap.size ≤ j ∧ j < wr.heap.size) ∧ (∀ j, S j → j < lo ∨ hi ≤ j) ∧ hi ≤ wr.heap.size ∧ f.tree = u ∧ f.faults = [] ∧ f.trace.length ≤ k ∧ Below w.heap.size w wr
theorem treeQ_of {w : World} {g : Nat} {u : File} {k : Nat} {wr W : World} (h : TreeI w g u k wr) (hb : Below wr.heap.size wr W) : TreeQ w g u k wr.heap.size W.heap.size W := by
  obtain ⟨S, f, h1, h2, h3, h4, h5, h6⟩ := h
  have := hb.size
  exact ⟨S, f, h1.below hb, fun j hj => ⟨(h2 j hj).1, by have := (h2 j hj).2; omega⟩, fun j hj => .inl (h2 j hj).2, Nat.le_refl _, h3, h4, h5, h6.trans (hb.mono h6.size)⟩
theorem TreeQ.base {w : World} {g : Nat} {u : File} {k lo hi : Nat} {wr : World} (h : TreeQ w g u k lo hi wr) : Below w.heap.size w wr := by
  obtain ⟨S, f, h1, h2, h3, h4, h5, h6, h7, h8⟩ := h
  exact h8
theorem treeQ_after {w : World} {g : Nat} {S : Nat → Prop} {wr w' : World} {f' : FsV} {v : File} {k lo hi : Nat} (h2 : ∀ j, S j → w.heap.size ≤ j ∧ j < wr.heap.size) (h3 : ∀ j, S j → j < lo ∨ hi ≤ j) (h4 : hi ≤ wr.heap.size) (h6 : Below w.heap.size w wr) (hf : FsIn (Grown S wr w') w' g f') (ho : Only S wr w') (hv : f'.tree = v) (hn : f'.faults = []) (hl : f'.trace.length ≤ k) :
    TreeQ w g v k lo hi w' ∧ ∀ j, lo ≤ j → j < hi → w'.heap[j]? = wr.heap[j]? := by
  have hs := ho.size
  have hw := h6.size
  refine ⟨⟨_, f', hf, fun j hj => ?_, fun j hj => ?_, by omega, hv, hn, hl, h6.trans (ho.below (B := w.heap.size) hw (fun j hj hS => by have := (h2 j hS).1; omega))⟩, fun j h7 h8 => ho.block j (by omega) fun hS => by have := h3 j hS; omega⟩
  · rcases hj with hj | hj
    · have := h2 j hj
      omega
    · omega
  · rcases hj with hj | hj
    · exact h3 j hj
    · exact .inr (by omega)
theorem trename_calls {w wr : World} {g : Nat} {t : File} {p q to_ : List ByteArray} {n s : ByteArray} {k lo hi : Nat} (T : TextAt t p q n) (hbt : t.bulk ≤ 1048576) (hss : s.size ≤ 1048576) (hk : k ≤ 1500000) (hn : P.rightB [] = true) (hI : TreeQ w g (putA t q (textF s)).1 k lo hi wr) (B : Option Addr) (d : Nat) (hq : Kd.F Kd.string wr (fun j => lo ≤ j ∧ j < hi) B q.length q) (hd : q.length ≤ d) (hqs : P.sumP q ≤ 1099511627776) (A : Option Addr) (c : Nat) (hp : Kd.C Kd.string w A to_.length to_) (hc : to_.length ≤ c) (hps : P.sumP to_ ≤ 1048576) :
    Calls Tryd.prog 30 #[.pointer (some ⟨g, 0, none⟩), .slice B q.length d, .slice A to_.length c] wr fun e w' => (∃ y, y ≠ 0 ∧ e = .returned (.int .i64 y) ∧ Below w.heap.size w w') ∨
      (e = .returned (.int .i64 0) ∧ ∃ v r, v.bulk ≤ 100000000 ∧ realR (putA t q (textF s)).1 to_ false = (r, 0) ∧ TreeQ w g v (k + 1) lo hi w' ∧ (∀ j, lo ≤ j → j < hi → w'.heap[j]? = wr.heap[j]?) ∧
        (∀ h : FsV, h.tree = v → h.faults = [] → P.rightB r = true → callV h 2 ⟨r, [], ⟨#[]⟩⟩ = (⟨v, h.trace ++ [⟨2, r, [], 0⟩], []⟩, told0 s, 0)) ∧
        (q = r ∨ ∀ h : FsV, h.tree = v → h.faults = [] → callV h 1 ⟨q, [], ⟨#[]⟩⟩ = (⟨v, h.trace ++ [⟨1, q, [], 31⟩], []⟩, told0 ⟨#[]⟩, 31))) := by
  obtain ⟨S, f, h1, h2, h3, h4, h5, h6, h7, h8⟩ := hI
  have hz := text_size (T.ok s)
  refine (rename_in wr g S f h1 (by rw [h5]; omega) (by omega) B d q (Kd.F_mono hq fun j hj hS => by have := h3 j hS; omega) hd hqs A c to_ (path_apart hp h8 h2) hc (by omega)).mono ?_
  rintro e w' ⟨rfl, hf, ho⟩
  have hb : Below w.heap.size w w' := h8.trans (ho.below (B := w.heap.size) h8.size (fun j hj hS => by have := (h2 j hS).1; omega))
  by_cases h : (callV f 5 ⟨q, to_, ⟨#[]⟩⟩).2.2 = 0
  · obtain ⟨v, r, e1, e2, e3, e4, e5⟩ := rename_call T f h6 s h5 h hn
    rw [e2] at hf
    obtain ⟨k1, k2⟩ := treeQ_after (k := k + 1) h2 h3 h4 h8 hf ho rfl rfl (by simp; omega)
    rw [h5] at e3
    have hgr := (call_grows f 5 ⟨q, to_, ⟨#[]⟩⟩ (by rw [h5]; exact T.rt s)).2.1
    rw [e2, h5] at hgr
    have hvb : v.bulk ≤ (putA t q (textF s)).1.bulk + 0 + 259 := hgr
    exact .inr ⟨by rw [h], v, r, by omega, e3, k1, k2, e4, e5⟩
  · exact .inl ⟨_, h, rfl, hb⟩
/-- Read behind the rename. -/
theorem treadQ_calls {w wr : World} {g : Nat} {v : File} {r : List ByteArray} {s : ByteArray} {k lo hi : Nat} (hv : v.bulk ≤ 100000000) (hk : k ≤ 1500000) (hr : ∀ h : FsV, h.tree = v → h.faults = [] → callV h 2 ⟨r, [], ⟨#[]⟩⟩ = (⟨v, h.trace ++ [⟨2, r, [], 0⟩], []⟩, told0 s, 0)) (hI : TreeQ w g v k lo hi wr) (B : Option Addr) (d : Nat) (hq : Kd.F Kd.string wr (fun j => lo ≤ j ∧ j < hi) B r.length r) (hd : r.length ≤ d) (hqs : P.sumP r ≤ 1099511627776) :
    Calls Tryd.prog 29 #[.pointer (some ⟨g, 0, none⟩), .slice B r.length d] wr fun e w' => e = .returned (.tuple #[.string s, .int .i64 0]) ∧ TreeQ w g v (k + 1) lo hi w' ∧ (∀ j, lo ≤ j → j < hi → w'.heap[j]? = wr.heap[j]?) := by
  obtain ⟨S, f, h1, h2, h3, h4, h5, h6, h7, h8⟩ := hI
  refine (read_in wr g S f h1 (by rw [h5]; omega) (by omega) B d r (Kd.F_mono hq fun j hj hS => by have := h3 j hS; omega) hd hqs).mono ?_
  rintro e w' ⟨rfl, hf, ho⟩
  rw [hr f h5 h6] at hf ⊢
  exact ⟨rfl, treeQ_after (k := k + 1) h2 h3 h4 h8 hf ho rfl rfl (by simp; omega)⟩
/-- Lstat at the old place. -/
theorem tlstatQ_calls {w wr : World} {g : Nat} {v : File} {q : List ByteArray} {k lo hi : Nat} (hv : v.bulk ≤ 100000000) (hk : k ≤ 1500000) (hI : TreeQ w g v k lo hi wr) (B : Option Addr) (d : Nat) (hq : Kd.F Kd.string wr (fun j => lo ≤ j ∧ j < hi) B q.length q) (hd : q.length ≤ d) (hqs : P.sumP q ≤ 1099511627776) :
    Calls Tryd.prog 31 #[.pointer (some ⟨g, 0, none⟩), .slice B q.length d] wr fun e w' => ∃ a b y, e = .returned (.tuple #[.agg #[.int .u8 a, .int .i64 b], .int .i64 y]) ∧ ((∀ h : FsV, h.tree = v → h.faults = [] → callV h 1 ⟨q, [], ⟨#[]⟩⟩ = (⟨v, h.trace ++ [⟨1, q, [], 31⟩], []⟩, told0 ⟨#[]⟩, 31)) → y = 31) ∧ Below w.heap.size w w' ∧ (∀ j, lo ≤ j → j < hi → w'.heap[j]? = wr.heap[j]?) := by
  obtain ⟨S, f, h1, h2, h3, h4, h5, h6, h7, h8⟩ := hI
  refine (lstat_in wr g S f h1 (by rw [h5]; omega) (by omega) B d q (Kd.F_mono hq fun j hj hS => by have := h3 j hS; omega) hd hqs).mono ?_
  rintro e w' ⟨rfl, hf, ho⟩
  refine ⟨_, _, _, rfl, fun h => by rw [h f h5 h6], h8.trans (ho.below (B := w.heap.size) h8.size (fun j hj hS => by have := (h2 j hS).1; omega)), fun j h9 h10 => ho.block j (by omega) fun hS => by have := h3 j hS; omega⟩
end Go.Proofs.YthlcjjhfkldmhaaDoor.G
