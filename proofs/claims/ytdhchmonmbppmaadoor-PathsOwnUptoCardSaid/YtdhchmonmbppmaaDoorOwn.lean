/- Writing into paths and lists of paths that are one's own. -/
import Derived.Test.YtdhchmonmbppmaaDoorPut
import Derived.Test.YtdhchmonmbppmaaDoorWApart
import Derived.Test.YtdhchmonmbppmaaDoorCover2
import Derived.Test.YtdhchmonmbppmaaDoorCmp
namespace Go.Proofs.YtdhchmonmbppmaaDoor.G
open Go.RowKit Go.Lib Go.Proofs.YtdhchmonmbppmaaDoorW.PrintWords Go.Proofs.YtdhchmonmbppmaaDoorW.PrintLast
set_option linter.unusedVariables false

/-- From w to W only blocks of S have been written. -/
def Off (S : Nat → Prop) (w W : World) : Prop := w.heap.size ≤ W.heap.size ∧ ∀ k, k < w.heap.size → ¬ S k → W.heap[k]? = w.heap[k]?
theorem off_refl (S : Nat → Prop) (w : World) : Off S w w := ⟨Nat.le_refl _, fun _ _ _ => rfl⟩
theorem off_trans {S T U : Nat → Prop} {w W V : World} (h : Off S w W) (h' : Off T W V) (hs : ∀ k, S k → U k) (ht : ∀ k, k < w.heap.size → T k → U k) : Off U w V :=
  ⟨Nat.le_trans h.1 h'.1, fun k hk hn => (h'.2 k (Nat.lt_of_lt_of_le hk h.1) (fun e => hn (ht k hk e))).trans (h.2 k hk (fun e => hn (hs k e)))⟩
theorem off_set {S : Nat → Prop} {w W : World} (h : Off S w W) {p : Addr} (hp : S p.block ∨ w.heap.size ≤ p.block) (u : Value) : Off S w (W.setCell p u) :=
  ⟨by simpa [World.setCell] using h.1, fun k hk hn => (Below.heap_setCell _ _ _ _ (fun e => by
    rcases hp with hp | hp
    · exact hn (e ▸ hp)
    · omega)).trans (h.2 k hk hn)⟩
/-- What lies below all that was written stands as it did. -/
theorem off_elder {S : Nat → Prop} {N B : Nat} {w0 w W : World} (h : Off S w W) (hb : Below B w0 w) (hb' : Below B w0 W) (hN : N ≤ w.heap.size) (hs : ∀ k, S k → N ≤ k) : Below N w W :=
  ⟨hb'.os.trans hb.os.symm, hb'.tape.trans hb.tape.symm, hb'.output.trans hb.output.symm, h.1, fun k hk => h.2 k (by omega) (fun e => by have := hs k e; omega)⟩
theorem off_grown {S : Nat → Prop} {w W V : World} (h : Off S w W) {row : Option Nat} (hg : W.grownBy V row) (hr : ∀ k, row = some k → S k ∨ w.heap.size ≤ k) : Off S w V :=
  ⟨Nat.le_trans h.1 hg.size, fun k hk hn => (hg.block k (Nat.lt_of_lt_of_le hk h.1) (fun e => by
    rcases hr k e.symm with h2 | h2
    · exact hn h2
    · omega)).trans (h.2 k hk hn)⟩
theorem off_below {S : Nat → Prop} {w W V : World} (h : Off S w W) (hb : Below W.heap.size W V) : Off S w V :=
  ⟨Nat.le_trans h.1 hb.size, fun k hk hn => (hb.block k (Nat.lt_of_lt_of_le hk h.1)).trans (h.2 k hk hn)⟩
theorem off_R {α : Type} {d : Kd α} {e base : Nat} {ok S : Nat → Prop} {w W : World} {v : Value} {xs : List α} (h : d.R e w base ok v xs) (ho : Off S w W) (hn : ∀ k, ok k → ¬ S k) : d.R e W base ok v xs :=
  Kd.R_step h fun k hk hlt => ho.2 k hlt (hn k hk)
theorem off_S {α : Type} {d : Kd α} {e base : Nat} {ok S : Nat → Prop} {w W : World} {v : Value} {xs : List α} (h : Kd.S d e w base ok v xs) (ho : Off S w W) (hn : ∀ k, ok k → ¬ S k) : Kd.S d e W base ok v xs :=
  Kd.S_step h fun k hk hlt => ho.2 k hlt (hn k hk)
/-- What was made between two worlds has its blocks between them. -/
theorem R_span {α : Type} {d : Kd α} {e base : Nat} {w W : World} {v : Value} {xs : List α} (h : d.R e w base (fun _ => True) v xs) (hb : Below w.heap.size w W) : d.R e W base (fun k => base ≤ k ∧ k < w.heap.size) v xs :=
  Kd.R_below (Kd.R_mono (Kd.R_bound h) fun k hk => ⟨hk.2.1, hk.2.2.1⟩) hb
theorem S_span {α : Type} {d : Kd α} {e base : Nat} {w W : World} {v : Value} {xs : List α} (h : Kd.S d e w base (fun _ => True) v xs) (hb : Below w.heap.size w W) : Kd.S d e W base (fun k => base ≤ k ∧ k < w.heap.size) v xs :=
  Kd.S_below (Kd.S_mono (Kd.S_bound h) fun k hk => ⟨hk.2.1, hk.2.2.1⟩) hb

/-- A text of a path of one's own: read and written. -/
theorem own_write {e base n cap : Nat} {A : Option Addr} {W : World} {ok : Nat → Prop} {xs : List ByteArray} (h : Kd.R Kd.string e W base ok (.slice A n cap) xs) (k : Nat) (hk : k < n) :
    ∃ g, A = some ⟨g, 0, none⟩ ∧ ok g ∧ base ≤ g ∧ W.cell? ⟨g, k, none⟩ = some (.string (xs.getD k ByteArray.empty)) ∧ W.frozen? ⟨g, k, none⟩ = false
      ∧ ∀ x : ByteArray, Kd.R Kd.string e (W.setCell ⟨g, k, none⟩ (.string x)) base ok (.slice (some ⟨g, 0, none⟩) n cap) (xs.set k x) := by
  obtain ⟨rfl, hc, hC⟩ := Kd.R_reads' h
  obtain ⟨g, cap', hv, hb, _⟩ := Kd.R_form h (by omega)
  injection hv with hA _ hcap
  subst hA hcap
  have h1 := Kd.R_celln ByteArray.empty h (k : Int) (by omega) (by omega)
  rw [Int.toNat_natCast] at h1
  have h3 : rdOf ByteArray.empty xs (k : Int) = xs.getD k ByteArray.empty := by simp [rdOf, List.getD]
  rw [h3] at h1
  refine ⟨g, rfl, h.1 g (by simp [Value.ownBlock]), hb, h1.1, h1.2, fun x => ?_⟩
  have h2 := Kd.R_putn h (k : Int) x
  rwa [Int.toNat_natCast] at h2

/-- A text of a path of a list of one's own, whose paths lie apart: read and written. -/
theorem path_write {e base n cap : Nat} {A : Option Addr} {W : World} {ok : Nat → Prop} {xs : List (List ByteArray)} (h : Kd.S PathK e W base ok (.slice A n cap) xs) (i : Nat) (hi : i < n) :
    ∃ g A' c', A = some ⟨g, 0, none⟩ ∧ base ≤ g ∧ ok g ∧ W.cell? ⟨g, i, none⟩ = some (.slice A' (xs.getD i []).length c') ∧ (xs.getD i []).length ≤ c' ∧ Kd.C Kd.string W A' (xs.getD i []).length (xs.getD i [])
      ∧ ∀ k, k < (xs.getD i []).length → ∃ g', A' = some ⟨g', 0, none⟩ ∧ ok g' ∧ base ≤ g' ∧ W.cell? ⟨g', k, none⟩ = some (.string ((xs.getD i []).getD k ByteArray.empty)) ∧ W.frozen? ⟨g', k, none⟩ = false
        ∧ ∀ x : ByteArray, Kd.S PathK e (W.setCell ⟨g', k, none⟩ (.string x)) base ok (.slice (some ⟨g, 0, none⟩) n cap) (xs.set i ((xs.getD i []).set k x)) := by
  obtain ⟨rfl, hc, hC⟩ := Kd.S_reads' h
  obtain ⟨g, cap', hv, hb, _⟩ := Kd.S_form h (by omega)
  injection hv with hA _ hcap
  subst hA hcap
  obtain ⟨oki, c, hcl, hM, hcc, hoki, hback⟩ := Kd.S_borrow h [] (i : Int) (by omega) (by omega)
  obtain ⟨v, rfl, hR⟩ := hM
  rw [Int.toNat_natCast] at hR hcc hback
  obtain ⟨A', c', rfl, hc', hC'⟩ := Kd.R_reads hR
  have h1 := hcc 0 _ rfl
  rw [show (⟨g, 0, none⟩ : Addr).add (i * PathK.sz + 0) = ⟨g, i, none⟩ by rw [add_zero_block]; congr 1; show i * 1 + 0 = i; omega] at h1
  refine ⟨g, A', c', rfl, hb, (Kd.S_R h).1 g (by simp [Value.ownBlock]), h1, hc', hC', fun k hk => ?_⟩
  obtain ⟨g', rfl, hok', hb', hcell, hfr, hput⟩ := own_write hR k hk
  refine ⟨g', rfl, (hoki g' hok').1, hb', hcell, hfr, fun x => ?_⟩
  exact hback (row := some g') ⟨rfl, rfl, rfl, by simp [World.setCell], fun j _ hne => Below.heap_setCell _ _ _ _ (fun e => hne (by rw [e]))⟩ (fun k hk => by injection hk with hk; subst hk; exact hok') ⟨_, rfl, hput x⟩

/-- A path of a list of one's own, lent: read, and put back grown. -/
theorem path_grow {e base n cap : Nat} {A : Option Addr} {W : World} {ok : Nat → Prop} {xs : List (List ByteArray)} (h : Kd.S PathK e W base ok (.slice A n cap) xs) (i : Nat) (hi : i < n) :
    ∃ g u oki, A = some ⟨g, 0, none⟩ ∧ base ≤ g ∧ ok g ∧ g < W.heap.size ∧ W.cell? ⟨g, i, none⟩ = some u ∧ W.frozen? ⟨g, i, none⟩ = false ∧ Kd.R Kd.string 9 W base oki u (xs.getD i []) ∧ (∀ k, oki k → ok k ∧ k ≠ g)
      ∧ ∀ (W1 W2 : World) u' x', Below W.heap.size W W1 → W1.grownBy W2 u.ownBlock → Kd.R Kd.string 9 W2 base (fun k => oki k ∨ W.heap.size ≤ k) u' x' → (∀ k, W.heap.size ≤ k → ok k) →
        Kd.S PathK e (W2.setCell ⟨g, i, none⟩ u') base ok (.slice (some ⟨g, 0, none⟩) n cap) (xs.set i x') := by
  have h' := Kd.S_mono (Kd.S_bound h) (ok' := fun k => ok k ∧ ¬ W.heap.size ≤ k) fun k hk => ⟨hk.1, fun e => by have := hk.2.2.1; omega⟩
  obtain ⟨rfl, hc, hC⟩ := Kd.S_reads' h
  obtain ⟨g, cap', hv, hb, hlt, _⟩ := Kd.S_form h (by omega)
  injection hv with hA _ hcap
  subst hA hcap
  obtain ⟨oki, c, hcl, hM, hcc, hfr, hoki, hH⟩ := Kd.S_elem h' [] (i : Int) (by omega) (by omega)
  obtain ⟨u, rfl, hR⟩ := hM
  rw [Int.toNat_natCast] at hR hcc hfr
  have h1 := hcc 0 _ rfl
  have h2 := hfr 0
  rw [show i * PathK.sz + 0 = i by show i * 1 + 0 = i; omega] at h1 h2
  refine ⟨g, u, oki, rfl, hb, (Kd.S_R h).1 g (by simp [Value.ownBlock]), hlt, h1, h2, hR, fun k hk => ⟨(hoki k hk).1.1, (hoki k hk).2⟩, fun W1 W2 u' x' hb1 hg hR' hfresh => ?_⟩
  have hH2 := Kd.H_grown (Kd.H_below hH hb1) hg (fun k hk => hR.1 k hk)
  have h3 := (Kd.S_seg (okg := fun k => W.heap.size ≤ k) hH2 (by omega) (by omega) (seg := [u']) (j := 0) (by show 0 + 1 ≤ 1; omega) (x' := x') (okp := fun k => oki k ∨ W.heap.size ≤ k) ⟨u', rfl, hR'⟩ (fun k hk => hk) (fun k hk => ⟨hfresh k hk, by omega⟩)).1
  rw [Int.toNat_natCast, show i * PathK.sz + 0 = i by show i * 1 + 0 = i; omega] at h3
  exact h3

/-! ### What the law's loops leave -/
def qm : ByteArray := ⟨#[63]⟩
def moreS : ByteArray := ⟨#[109, 111, 114, 101]⟩
def QmTo (L : List (List ByteArray)) (i k : Nat) : Prop := (∀ j p, L[j]? = some p → j < i → ∀ x ∈ p, x = qm) ∧ (∀ p, L[i]? = some p → ∀ t x, p[t]? = some x → t < k → x = qm)
theorem qm_start (L : List (List ByteArray)) : QmTo L 0 0 := ⟨fun j p _ h => by omega, fun p _ t x _ h => by omega⟩
theorem qm_step {L : List (List ByteArray)} {i k : Nat} (hi : i < L.length) (h : QmTo L i k) : QmTo (L.set i ((L.getD i []).set k qm)) i (k + 1) := by
  have hg : L[i]? = some (L.getD i []) := by simp [List.getD, hi]
  refine ⟨fun j p hp hj => ?_, fun p hp t x hx ht => ?_⟩
  · rw [List.getElem?_set_ne (by omega)] at hp
    exact h.1 j p hp hj
  · rw [List.getElem?_set_self hi] at hp
    injection hp with hp
    subst hp
    by_cases e : t = k
    · subst e
      obtain ⟨hl, hx⟩ := List.getElem?_eq_some_iff.1 hx
      rw [← hx, List.getElem_set_self]
    · rw [List.getElem?_set_ne (by omega)] at hx
      exact h.2 _ hg t x hx (by omega)
theorem qm_next {L : List (List ByteArray)} {i k : Nat} (h : QmTo L i k) (hk : (L.getD i []).length ≤ k) : QmTo L (i + 1) 0 := by
  refine ⟨fun j p hp hj => ?_, fun p _ t x _ ht => by omega⟩
  by_cases e : j = i
  · subst e
    have hg : L.getD j [] = p := by simp [List.getD, hp]
    rw [hg] at hk
    intro x hx
    obtain ⟨t, ht, rfl⟩ := List.getElem_of_mem hx
    exact h.2 p hp t _ (List.getElem?_eq_getElem ht) (by omega)
  · exact h.1 j p hp (by omega)
def LenTo (L : List (List ByteArray)) (B : Nat) : Prop := ∀ j, (L.getD j []).length ≤ B
theorem len_step {L : List (List ByteArray)} {B i k : Nat} (h : LenTo L B) (x : ByteArray) : LenTo (L.set i ((L.getD i []).set k x)) B := by
  intro j
  by_cases e : i = j
  · subst e
    by_cases hi : i < L.length
    · have := h i
      simp only [List.getD, List.getElem?_set_self hi, Option.getD_some, List.length_set] at this ⊢
      exact this
    · rw [List.set_eq_of_length_le (by omega)]; exact h i
  · have := h j
    simp only [List.getD, List.getElem?_set_ne e] at this ⊢
    exact this
def MoreTo (L : List (List ByteArray)) (i : Nat) : Prop := (∀ j, j < i → j < L.length → ∃ m, L.getD j [] = List.replicate m qm ++ [moreS, moreS] ∧ m ≤ 4194304) ∧ (∀ j, i ≤ j → j < L.length → ∃ m, L.getD j [] = List.replicate m qm ∧ m ≤ 4194304)
theorem more_start {L : List (List ByteArray)} {n B : Nat} (hn : L.length = n) (h : QmTo L n 0) (hl : LenTo L B) (hB : B ≤ 4194304) : MoreTo L 0 := by
  refine ⟨fun j hj => by omega, fun j _ hj => ⟨(L.getD j []).length, ?_, Nat.le_trans (hl j) hB⟩⟩
  rw [List.eq_replicate_iff]
  refine ⟨rfl, fun x hx => h.1 j (L.getD j []) (by simp [List.getD, hj]) (by omega) x hx⟩
theorem more_step {L : List (List ByteArray)} {i : Nat} (hi : i < L.length) (h : MoreTo L i) : MoreTo (L.set i (L.getD i [] ++ [moreS, moreS])) (i + 1) := by
  refine ⟨fun j hj hl => ?_, fun j hj hl => ?_⟩
  · rw [List.length_set] at hl
    by_cases e : i = j
    · subst e
      obtain ⟨m, hm, hB⟩ := h.2 i (Nat.le_refl _) hi
      refine ⟨m, ?_, hB⟩
      rw [← hm]
      simp [List.getD, List.getElem?_set_self hi]
    · obtain ⟨m, hm⟩ := h.1 j (by omega) hl
      exact ⟨m, by simpa [List.getD, List.getElem?_set_ne e] using hm⟩
  · rw [List.length_set] at hl
    obtain ⟨m, hm⟩ := h.2 j (by omega) hl
    exact ⟨m, by simpa [List.getD, List.getElem?_set_ne (show i ≠ j by omega)] using hm⟩

/-- The literal list of one path of two texts. -/
theorem lit_paths (W : World) (a b : ByteArray) :
    Kd.R PathK 23 ((W.alloc (.cells #[.string a, .string b] 9)).alloc (.cells #[.slice (some ⟨W.heap.size, 0, none⟩) 2 2] 23)) W.heap.size (fun _ => True)
      (.slice (some ⟨W.heap.size + 1, 0, none⟩) 1 1) [[a, b]] := by
  have h1 : (W.alloc (.cells #[.string a, .string b] 9)).ownsRow W.heap.size 9 1 (.slice (some ⟨W.heap.size, 0, none⟩) 2 2) 2 [.string a, .string b] :=
    World.ownsRow_lit (base := W.heap.size) (e := 9) (size := 1) W #[.string a, .string b] 2 (Nat.le_refl _) (by decide) rfl
  have hs : (W.alloc (.cells #[.string a, .string b] 9)).heap.size = W.heap.size + 1 := by simp
  have h2 := World.ownsRow_lit (base := W.heap.size) (e := 23) (size := 1) (W.alloc (.cells #[.string a, .string b] 9)) #[.slice (some ⟨W.heap.size, 0, none⟩) 2 2] 1 (by omega) (by decide) rfl
  rw [hs] at h2
  have h3 : Kd.R Kd.string 9 (W.alloc (.cells #[.string a, .string b] 9)) W.heap.size (fun k => True ∧ some k ≠ some (W.heap.size + 1)) (.slice (some ⟨W.heap.size, 0, none⟩) 2 2) [a, b] :=
    Kd.R_of_own (xs := [a, b]) h1 (fun k hk => ⟨trivial, fun e => by
      simp only [Value.ownBlock] at hk
      injection e with e
      injection hk with hk
      omega⟩)
  refine ⟨fun _ _ => trivial, _, h2, rfl, fun j p hp => ?_⟩
  cases j with
  | zero =>
    injection hp with hp
    subst hp
    exact ⟨_, rfl, Kd.R_below h3 (below_alloc (Below.refl _ _) _)⟩
  | succ j => simp at hp
end Go.Proofs.YtdhchmonmbppmaaDoor.G
