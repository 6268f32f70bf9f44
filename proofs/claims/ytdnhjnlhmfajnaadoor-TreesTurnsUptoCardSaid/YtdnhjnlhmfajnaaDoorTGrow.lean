/- What Read answers, and what it keeps: plain. -/
import Derived.Test.YtdnhjnlhmfajnaaDoorTDir
import Derived.Test.YtdnhjnlhmfajnaaDoorTRead1
import Derived.Test.YtdnhjnlhmfajnaaDoorTLine
namespace Go.Proofs.YtdnhjnlhmfajnaaDoor.G
open Go.RowKit Go.Lib Go.Proofs.YtdnhjnlhmfajnaaDoorW.PrintWords Go.Proofs.YtdnhjnlhmfajnaaDoorW.PrintLast
set_option linter.unusedVariables false

def skipB (x : ByteArray) : Bool := x.toList.isEmpty || Lib.hasPrefix x.data.toList [35]
def pushF (d z : File) : File := { d with files := d.files ++ [z] }
def addP (t : File) (p : List ByteArray) (d z : File) : File := putP t p.dropLast (pushF d z)
def newF (p : List ByteArray) (r : RowR) : File := ⟨p.getLastD ⟨#[]⟩, r.kind, r.data, []⟩
/-- One line: the rule that it breaks, 0: none; the tree and the path behind it. -/
def lineR (t : File) (last : List ByteArray) (text : ByteArray) : Int × File × List ByteArray :=
  if (readR text).rule = 0 then
    (if (splitR (readR text).path).2 = true then
      (if last ≠ [] ∧ 0 ≤ cmpP last (splitR (readR text).path).1 then (4, t, last)
      else match dirO t (splitR (readR text).path).1 with
        | none => (5, t, last)
        | some d => if (readR text).kind = 3 ∧ targetB (readR text).data = false then (6, t, last) else (0, addP t (splitR (readR text).path).1 d (newF (splitR (readR text).path).1 (readR text)), (splitR (readR text).path).1))
    else (3, t, last))
  else ((readR text).rule, t, last)
def readAll : List (ByteArray × Bool) → Nat → File → List ByteArray → File × Int × Nat × Int
  | [], _, t, _ => (t, 0, 0, 0)
  | l :: ls, i, t, last => if skipB l.1 then readAll ls (i + 1) t last else if (lineR t last l.1).1 = 0 then readAll ls (i + 1) (lineR t last l.1).2.1 (lineR t last l.1).2.2 else (zeroF, 51, i + 1, (lineR t last l.1).1)
def rootF : File := ⟨⟨#[]⟩, 1, ⟨#[]⟩, []⟩
def treeR (s : ByteArray) : File × Int × Nat × Int := readAll (linesP s.data.toList) 0 rootF []

theorem cb_less : ∀ a b : List UInt8, compareBytes a b < 0 ↔ a < b
  | [], [] => by simp [compareBytes]
  | [], _ :: _ => by simp [compareBytes]
  | _ :: _, [] => by simp [compareBytes]
  | a :: ar, b :: bs => by
    have ih := cb_less ar bs
    rw [compareBytes, List.cons_lt_cons_iff]
    by_cases h1 : a < b
    · simp [h1]
    · by_cases h2 : b < a
      · simp only [h1, h2, if_true, if_false, false_or]
        constructor
        · intro h; omega
        · rintro ⟨rfl, _⟩; exact absurd h2 h1
      · have he : a = b := by
          have h3 := UInt8.not_lt.1 h1
          have h4 := UInt8.not_lt.1 h2
          exact UInt8.le_antisymm h4 h3
        subst he
        simp only [h1, if_false, false_or, true_and]
        exact ih
theorem less_cb {x y : ByteArray} : lessB x y = true ↔ compareBytes x.data.toList y.data.toList < 0 := by
  unfold lessB
  rw [bytesLess_eq, decide_eq_true_eq, Lib.toList_data, Lib.toList_data, cb_less]
theorem cmp_last (a b : ByteArray) : ∀ q : List ByteArray, cmpP (q ++ [a]) (q ++ [b]) < 0 → lessB a b = true
  | [], h => by
    rw [less_cb]
    simp only [List.nil_append, cmpP] at h
    split at h
    · omega
    · exact h
  | x :: q, h => by
    simp only [List.cons_append, cmpP, if_true] at h
    exact cmp_last a b q h
theorem preF_child {f x : File} {p : List ByteArray} (h : x ∈ f.files) : (p ++ [x.name], x) ∈ preF p f := by
  rw [preF_eq]
  generalize f.files = l at h
  induction l with
  | nil => cases h
  | cons y l ih =>
    rw [preL]
    rcases List.mem_cons.1 h with rfl | h
    · exact List.mem_cons_self
    · exact List.mem_cons_of_mem _ (List.mem_append_right _ (ih h))
theorem preL_mem {p : List ByteArray} {y : List ByteArray × File} : ∀ {l : List File}, y ∈ preL p l ↔ ∃ x ∈ l, y = (p ++ [x.name], x) ∨ y ∈ preF (p ++ [x.name]) x
  | [] => by simp [preL]
  | x :: l => by
    rw [preL, List.mem_cons, List.mem_append, preL_mem (l := l)]
    simp only [List.mem_cons]
    constructor
    · rintro (h | h | ⟨z, hz, h⟩)
      · exact ⟨x, .inl rfl, .inl h⟩
      · exact ⟨x, .inl rfl, .inr h⟩
      · exact ⟨z, .inr hz, h⟩
    · rintro ⟨z, rfl | hz, h⟩
      · exact h.elim .inl fun h => .inr (.inl h)
      · exact .inr (.inr ⟨z, hz, h⟩)
theorem preF_mem {p : List ByteArray} {y : List ByteArray × File} {f : File} : y ∈ preF p f ↔ ∃ x ∈ f.files, y = (p ++ [x.name], x) ∨ y ∈ preF (p ++ [x.name]) x := by
  rw [preF_eq]
  exact preL_mem
/-- A step of goP that comes to a file. -/
theorem goP_step {f : File} {n : ByteArray} {q : List ByteArray} {d : File} {k : Int} (h : goP f (n :: q) = (k, some d)) : ∃ x, f.files[lowB f.files n]? = some x ∧ x.name = n ∧ goP x q = (k, some d) := by
  rw [goP] at h
  split at h
  · split at h
    · rename_i x hx
      split at h
      · rename_i he
        exact ⟨x, hx, toList_inj.1 (eq_of_beq he), h⟩
      · cases h
    · cases h
  · cases h
theorem preF_go : ∀ (q : List ByteArray) (f d : File) (p : List ByteArray) (k : Int) (y : List ByteArray × File), goP f q = (k, some d) → y ∈ preF (p ++ q) d → y ∈ preF p f
  | [], f, d, p, k, y, h, hy => by
    rw [goP] at h
    injection h with _ h
    injection h with h
    subst h
    simpa using hy
  | n :: q, f, d, p, k, y, h, hy => by
    obtain ⟨x, hx, hn, hg⟩ := goP_step h
    have h1 := preF_go q x d (p ++ [n]) k y hg (by simpa using hy)
    exact preF_mem.2 ⟨x, List.mem_of_getElem? hx, .inr (by rw [hn]; exact h1)⟩
theorem putP_name : ∀ (q : List ByteArray) (f y d : File) (k : Int), goP f q = (k, some d) → y.name = d.name → (putP f q y).name = f.name
  | [], f, y, d, k, h, hy => by
    rw [goP] at h
    injection h with _ h
    injection h with h
    subst h
    rw [putP]
    exact hy
  | n :: q, f, y, d, k, h, hy => (putP_keep f n q y).1
theorem sorted_set {l : List File} {i : Nat} {x x' : File} (h : SortedN l) (hx : l[i]? = some x) (hn : x'.name = x.name) : SortedN (l.set i x') := by
  unfold SortedN at *
  rw [List.pairwise_iff_getElem] at h ⊢
  intro a b ha hb hab
  have hl := (List.getElem?_eq_some_iff.1 hx)
  obtain ⟨hi, hxe⟩ := hl
  simp only [List.length_set] at ha hb
  have hnm : ∀ (c : Nat) (hc : c < l.length), ((l.set i x')[c]'(by simpa using hc)).name = l[c].name := fun c hc => by
    rw [List.getElem_set]
    split
    · rename_i e
      subst e
      rw [hn, hxe]
    · rfl
  rw [hnm a ha, hnm b hb]
  exact h a b ha hb hab
theorem sort_put : ∀ (q : List ByteArray) (f y d : File) (k : Int), goP f q = (k, some d) → y.name = d.name → SortF f → SortF y → SortF (putP f q y)
  | [], f, y, d, k, h, hn, hs, hy => by rw [putP]; exact hy
  | n :: q, f, y, d, k, h, hn, hs, hy => by
    obtain ⟨x, hx, hxn, hg⟩ := goP_step h
    rw [SortF_eq] at hs
    have ih := sort_put q x y d k hg hn (SortL_mem.1 hs.2 x (List.mem_of_getElem? hx)) hy
    rw [putP, hx]
    simp only
    rw [SortF_eq]
    refine ⟨sorted_set hs.1 hx (putP_name q x y d k hg hn), SortL_mem.2 fun z hz => ?_⟩
    rcases List.mem_or_eq_of_mem_set hz with hz | rfl
    · exact SortL_mem.1 hs.2 z hz
    · exact ih
theorem pre_put : ∀ (q : List ByteArray) (f y d : File) (k : Int) (p : List ByteArray) (e : List ByteArray × File), goP f q = (k, some d) → y.name = d.name → e ∈ preF p (putP f q y) → (∃ e0 ∈ preF p f, e0.1 = e.1) ∨ e ∈ preF (p ++ q) y
  | [], f, y, d, k, p, e, h, hn, he => by rw [putP] at he; exact .inr (by simpa using he)
  | n :: q, f, y, d, k, p, e, h, hn, he => by
    obtain ⟨x, hx, hxn, hg⟩ := goP_step h
    rw [putP, hx] at he
    simp only at he
    obtain ⟨z, hz, hez⟩ := preF_mem.1 he
    rcases List.mem_or_eq_of_mem_set hz with hz | rfl
    · exact .inl ⟨e, preF_mem.2 ⟨z, hz, hez⟩, rfl⟩
    · have hpn := putP_name q x y d k hg hn
      rcases hez with rfl | hez
      · exact .inl ⟨(p ++ [x.name], x), preF_child (List.mem_of_getElem? hx), by simp only [hpn]⟩
      · rw [hpn] at hez
        rcases pre_put q x y d k _ e hg hn hez with ⟨e0, h0, h1⟩ | h0
        · exact .inl ⟨e0, preF_mem.2 ⟨x, List.mem_of_getElem? hx, .inr h0⟩, h1⟩
        · exact .inr (by rw [hxn] at h0; simpa using h0)
theorem bulkL_set {l : List File} {i : Nat} {x x' : File} (hx : l[i]? = some x) : bulkL (l.set i x') + x.bulk = bulkL l + x'.bulk := by
  induction l generalizing i with
  | nil => simp at hx
  | cons z l ih =>
    cases i with
    | zero =>
      obtain rfl : z = x := by simpa using hx
      simp only [List.set_cons_zero, bulkL_cons]
      omega
    | succ i =>
      have := ih (i := i) (by simpa using hx)
      simp only [List.set_cons_succ, bulkL_cons]
      omega
theorem bulk_put : ∀ (q : List ByteArray) (f y d : File) (k : Int), goP f q = (k, some d) → (putP f q y).bulk + d.bulk = f.bulk + y.bulk
  | [], f, y, d, k, h => by
    rw [goP] at h
    injection h with _ h
    injection h with h
    subst h
    rw [putP]
    omega
  | n :: q, f, y, d, k, h => by
    obtain ⟨x, hx, hxn, hg⟩ := goP_step h
    have ih := bulk_put q x y d k hg
    have h1 := bulkL_set (x' := putP x q y) hx
    have e1 := bulk_eq f
    have e2 := bulk_eq (putP f (n :: q) y)
    have e3 : (putP f (n :: q) y).files = f.files.set (lowB f.files n) (putP x q y) := by rw [putP, hx]
    obtain ⟨k1, k2, k3⟩ := putP_keep f n q y
    rw [e3, k1, k3] at e2
    omega
theorem push_bulk (d z : File) : (pushF d z).bulk = d.bulk + z.bulk := by
  have h1 := bulk_eq d
  have h2 := bulk_eq (pushF d z)
  have h3 : bulkL (d.files ++ [z]) = bulkL d.files + z.bulk := by simp [bulkL]
  simp only [pushF] at h2 h3 ⊢
  omega
/-- What is kept from line to line. -/
structure Good (t : File) (last : List ByteArray) : Prop where
  sort : SortF t
  below : ∀ y ∈ preF [] t, cmpP y.1 last ≤ 0
  nil : last = [] → t.files = []
  name : t.name = ⟨#[]⟩
  kind : t.kind = 1
  data : t.data = ⟨#[]⟩
theorem good_root : Good rootF [] := ⟨by rw [SortF_eq]; exact ⟨List.Pairwise.nil, trivial⟩, fun y hy => by rw [preF_eq] at hy; simp [rootF, preL] at hy, fun _ => rfl, rfl, rfl, rfl⟩
theorem good_add {t : File} {last p : List ByteArray} {d : File} {k : Int} {z : File} (h : Good t last) (hp : p ≠ []) (hg : goP t p.dropLast = (k, some d)) (hz : z.files = []) (hn : z.name = p.getLastD ⟨#[]⟩) (hc : ¬ (last ≠ [] ∧ 0 ≤ cmpP last p)) : Good (addP t p d z) p := by
  have hpq : p = p.dropLast ++ [z.name] := by
    rw [hn]
    conv => lhs; rw [← List.dropLast_concat_getLast hp]
    congr 2
    cases p with
    | nil => exact absurd rfl hp
    | cons _ _ => rfl
  obtain ⟨q, hq⟩ : ∃ q, p.dropLast = q := ⟨_, rfl⟩
  rw [hq] at hpq hg
  have hdir : ∀ x ∈ d.files, (q ++ [x.name], x) ∈ preF [] t := fun x hx => preF_go q t d [] k _ hg (by simpa using preF_child (p := q) hx)
  have hless : ∀ y ∈ preF [] t, cmpP y.1 p < 0 := fun y hy => by
    have h1 := h.below y hy
    have hl : last ≠ [] := fun e => by
      have := h.nil e
      rw [preF_eq, this] at hy
      simp [preL] at hy
    have h2 : cmpP last p < 0 := by
      rcases Int.lt_or_le (cmpP last p) 0 with h3 | h3
      · exact h3
      · exact absurd ⟨hl, h3⟩ hc
    have h3 := cmp_trans h1 (by omega : cmpP last p ≤ 0)
    rcases Int.lt_or_eq_of_le h3 with h4 | h4
    · exact h4
    · have h5 := cmp_zero.1 h4
      rw [h5] at h1
      have h6 := cmp_anti last p
      omega
  have hch : ∀ x ∈ d.files, lessB x.name z.name = true := fun x hx => by
    have h1 := hless _ (hdir x hx)
    simp only at h1
    rw [hpq] at h1
    exact cmp_last _ _ q h1
  have hds : SortF d := by
    have : ∀ (q : List ByteArray) (f : File), SortF f → goP f q = (k, some d) → SortF d := by
      intro q
      induction q with
      | nil => intro f hf hg; rw [goP] at hg; injection hg with _ hg; injection hg with hg; subst hg; exact hf
      | cons n q ih =>
        intro f hf hg
        obtain ⟨x, hx, _, hg⟩ := goP_step hg
        rw [SortF_eq] at hf
        exact ih x (SortL_mem.1 hf.2 x (List.mem_of_getElem? hx)) hg
    exact this q t h.sort hg
  have hps : SortF (pushF d z) := by
    rw [SortF_eq] at hds ⊢
    refine ⟨?_, SortL_mem.2 fun x hx => ?_⟩
    · show SortedN (d.files ++ [z])
      unfold SortedN
      rw [List.pairwise_append]
      exact ⟨hds.1, List.pairwise_singleton _ _, fun a ha b hb => by rw [List.mem_singleton.1 hb]; exact hch a ha⟩
    · rcases List.mem_append.1 (show x ∈ d.files ++ [z] from hx) with hx | hx
      · exact SortL_mem.1 hds.2 x hx
      · rw [List.mem_singleton.1 hx, SortF_eq, hz]
        exact ⟨List.Pairwise.nil, trivial⟩
  have hkeep : (addP t p d z).name = t.name ∧ (addP t p d z).kind = t.kind ∧ (addP t p d z).data = t.data := by
    rw [addP, hq]
    cases q with
    | nil => rw [goP] at hg; injection hg with _ hg; injection hg with hg; subst hg; rw [putP]; exact ⟨rfl, rfl, rfl⟩
    | cons n q => exact putP_keep _ _ _ _
  refine ⟨by rw [addP, hq]; exact sort_put q t _ d k hg rfl h.sort hps, fun y hy => ?_, fun e => absurd e hp, hkeep.1.trans h.name, hkeep.2.1.trans h.kind, hkeep.2.2.trans h.data⟩
  rw [addP, hq] at hy
  rcases pre_put q t (pushF d z) d k [] y hg rfl hy with ⟨e0, h0, h1⟩ | h0
  · rw [← h1]
    have := hless e0 h0
    omega
  · obtain ⟨x, hx, hyx⟩ := preF_mem.1 h0
    rcases List.mem_append.1 (show x ∈ d.files ++ [z] from hx) with hx | hx
    · have h1 : y ∈ preF [] t := preF_go q t d [] k y hg (preF_mem.2 ⟨x, hx, hyx⟩)
      have := hless y h1
      omega
    · have hxz := List.mem_singleton.1 hx
      rw [hxz] at hyx
      rcases hyx with hye | hyx
      · rw [hye]
        simp only [List.nil_append]
        rw [← hpq]
        have := cmp_zero.2 (rfl : p = p)
        omega
      · rw [preF_eq, hz] at hyx
        simp [preL] at hyx
end Go.Proofs.YtdnhjnlhmfajnaaDoor.G
