/- Package vfs, plain: where a walk leads stands what it says; a right tree stays right; how much a tree grows. -/
import Derived.Test.YthlcjjhfkldmhaaDoorVPut
import Derived.Test.YthlcjjhfkldmhaaDoorVSpec
set_option linter.unusedVariables false
set_option linter.unusedSimpArgs false
section
namespace Go.Proofs.YthlcjjhfkldmhaaDoor.G
open Go.RowKit Go.Lib Go.Proofs.YthlcjjhfkldmhaaDoorW.PrintWords Go.Proofs.YthlcjjhfkldmhaaDoorW.PrintLast
set_option linter.unusedVariables false

/-- Those that have come up, as bits. -/
def bq (n m : Nat) : Array Bool := ((List.range n).map (fun j => m.testBit j)).toArray
/-- The cells of a request, with what it tells. -/
def reqCells (x : Req) (Ap : Option Addr) (cp : Nat) (Ad : Option Addr) (cd : Nat) (tl : Told) : Array Value := #[.slice Ap x.p.length cp, .slice Ad x.dest.length cd, .string tl.data, .int .u8 tl.kind, .int .i64 tl.size]
/-- What a call leaves. -/
def OpPost (w : World) (g r : Nat) (O : Nat → Prop) (tb : Option Nat) (f : FsV) (x : Req) (Ap : Option Addr) (cp : Nat) (Ad : Option Addr) (cd : Nat) (res : File × Told × Int) (e : Ending) (w' : World) : Prop :=
  e = .returned (.int .i64 res.2.2) ∧ FsAt w' g (fun k => O k ∨ w.heap.size ≤ k ∧ k < w'.heap.size) tb { f with tree := res.1 } ∧ w'.heap[r]? = some (.cells (reqCells x Ap cp Ad cd res.2.1) 94 (0, 0)) ∧ Only (fun k => k = g ∨ k = r) w w'
theorem textF_bulk (d : ByteArray) : (textF d).bulk = 4 + d.size := by
  rw [bulk_eq]
  show 4 + 0 + d.size + 0 = _
  omega
theorem sumP_app (a b : List ByteArray) : P.sumP (a ++ b) = P.sumP a + P.sumP b := by simp [P.sumP, List.sum_append]
theorem sumP_cons (n : ByteArray) (b : List ByteArray) : P.sumP (n :: b) = 1 + (n.size : Int) + P.sumP b := by simp [P.sumP]
theorem sumP_one (n : ByteArray) : P.sumP [n] = 1 + (n.size : Int) := by simp [P.sumP]
theorem sumP_in {l : List ByteArray} {n : ByteArray} (h : n ∈ l) : (n.size : Int) + 1 ≤ P.sumP l := by
  induction l with
  | nil => cases h
  | cons a l ih =>
    have h1 := sumP_cons a l
    have h2 := P.sumP_nonneg l
    rcases List.mem_cons.1 h with rfl | h
    · omega
    · have := ih h; omega
theorem walkIn_sum (last : Bool) (follow : Option (List ByteArray → WR)) (S : Int) (hS : 0 ≤ S) (hf : ∀ g, follow = some g → ∀ todo, P.sumP (g todo).1 ≤ P.sumP todo + S) :
    ∀ (todo done : List ByteArray) (here : File), P.sumP (walkIn last follow todo done here).1 ≤ P.sumP done + P.sumP todo + S + 1024
  | [], done, here => by
    rw [walkIn]
    have : P.sumP ([] : List ByteArray) = 0 := rfl
    simp only
    omega
  | n :: rest, done, here => by
    have hd := P.sumP_nonneg done
    have hr := P.sumP_nonneg rest
    have hc := sumP_cons n rest
    have h0 : P.sumP ([] : List ByteArray) = 0 := rfl
    have hb : ∀ k, P.sumP (badW k).1 ≤ P.sumP done + P.sumP (n :: rest) + S + 1024 := fun k => by show P.sumP [] ≤ _; omega
    rw [walkIn]
    split
    · split
      · split
        · show P.sumP (done ++ [n]) ≤ _
          rw [sumP_app, sumP_one]
          omega
        · exact hb _
      · rename_i x hx
        split
        · split
          · exact hb _
          · rename_i g
            split
            · rename_i hz
              split
              · have h1 := hf g rfl ((P.normR done x.data).1 ++ rest)
                rw [sumP_app] at h1
                have h2 := P.norm_sum done x.data hz
                omega
              · exact hb _
            · exact hb _
        · have h1 := walkIn_sum last follow S hS hf rest (done ++ [n]) x
          rw [sumP_app, sumP_one] at h1
          omega
    · exact hb _
theorem follow_sum (t : File) (last : Bool) : ∀ (k : Nat) (g : List ByteArray → WR), followK t last k = some g → ∀ todo, P.sumP (g todo).1 ≤ P.sumP todo + 1024 * (k : Int)
  | 0, g, h => by simp [followK] at h
  | k + 1, g, h => by
    intro todo
    simp only [followK, Option.some.injEq] at h
    subst h
    have h1 := walkIn_sum last (followK t last k) (1024 * (k : Int)) (by omega) (follow_sum t last k) todo [] t
    have h0 : P.sumP ([] : List ByteArray) = 0 := rfl
    simp only
    omega
theorem walk_sum (t : File) (p : List ByteArray) (last : Bool) : P.sumP (walkR t p last).1 ≤ P.sumP p + 41984 := by
  have h0 : P.sumP ([] : List ByteArray) = 0 := rfl
  have hp := P.sumP_nonneg p
  unfold walkR
  split
  · have h1 := walkIn_sum last (followK t last 40) (1024 * (40 : Nat)) (by omega) (follow_sum t last 40) p [] t
    omega
  · show P.sumP [] ≤ _
    omega
theorem walkIn_bulk (last : Bool) (follow : Option (List ByteArray → WR)) (b : Nat) (hf : ∀ g, follow = some g → ∀ todo, (g todo).2.1.bulk ≤ b + 4) :
    ∀ (todo done : List ByteArray) (here : File), here.bulk ≤ b → (walkIn last follow todo done here).2.1.bulk ≤ b + 4
  | [], done, here, h => by
    rw [walkIn]
    simp only
    omega
  | n :: rest, done, here, h => by
    have hz := zero_bulk4
    have hb : ∀ k, (badW k).2.1.bulk ≤ b + 4 := fun k => by show zeroF.bulk ≤ _; omega
    rw [walkIn]
    split
    · split
      · split
        · show zeroF.bulk ≤ _; omega
        · exact hb _
      · rename_i x hx
        split
        · split
          · exact hb _
          · rename_i g
            split
            · split
              · exact hf g rfl _
              · exact hb _
            · exact hb _
        · have h1 := bulk_child (List.mem_of_find?_eq_some hx)
          exact walkIn_bulk last follow b hf rest (done ++ [n]) x (by omega)
    · exact hb _
theorem follow_bulk (t : File) (last : Bool) : ∀ (k : Nat) (g : List ByteArray → WR), followK t last k = some g → ∀ todo, (g todo).2.1.bulk ≤ t.bulk + 4
  | 0, g, h => by simp [followK] at h
  | k + 1, g, h => by
    intro todo
    simp only [followK, Option.some.injEq] at h
    subst h
    exact walkIn_bulk last (followK t last k) t.bulk (follow_bulk t last k) todo [] t (Nat.le_refl _)
theorem walk_bulk (t : File) (p : List ByteArray) (last : Bool) : (walkR t p last).2.1.bulk ≤ t.bulk + 4 := by
  have hz := zero_bulk4
  unfold walkR
  split
  · exact walkIn_bulk last (followK t last 40) t.bulk (follow_bulk t last 40) p [] t (Nat.le_refl _)
  · show zeroF.bulk ≤ _; omega
end Go.Proofs.YthlcjjhfkldmhaaDoor.G
end
section
namespace Go.Proofs.YthlcjjhfkldmhaaDoor.G
open Go.RowKit Go.Lib Go.Proofs.YthlcjjhfkldmhaaDoorW.PrintWords Go.Proofs.YthlcjjhfkldmhaaDoorW.PrintLast
set_option linter.unusedVariables false
set_option linter.unusedSimpArgs false

/-- What a walk says of a tree. -/
def There (t : File) (r : WR) : Prop := r.2.2.2 = 0 → (r.2.2.1 = true → goP t r.1 = (0, some r.2.1)) ∧ (r.2.2.1 = false → r.2.1 = zeroF ∧ ∃ q n d, r.1 = q ++ [n] ∧ goP t q = (0, some d) ∧ d.kind = 1 ∧ d.files.find? (nameIs n) = none)
theorem there_bad (t : File) (k : Int) (hk : k ≠ 0) : There t (badW k) := fun h => absurd h hk
theorem go_one {d x : File} {n : ByteArray} (hs : SortF d) (hk : d.kind = 1) (hx : d.files.find? (nameIs n) = some x) : goP d [n] = (0, some x) := by
  rw [goP_find hs, if_pos hk, hx]
  simp only
  rw [goP]
theorem walkIn_there (t : File) (ht : SortF t) (last : Bool) (follow : Option (List ByteArray → WR)) (hf : ∀ g, follow = some g → ∀ todo, There t (g todo)) :
    ∀ (todo done : List ByteArray) (here : File), goP t done = (0, some here) → There t (walkIn last follow todo done here)
  | [], done, here, h => by
    rw [walkIn]
    exact fun _ => And.intro (fun _ => h) (fun h2 => Bool.noConfusion h2)
  | n :: rest, done, here, h => by
    have hs := go_sort done t here 0 ht h
    rw [walkIn]
    split
    · rename_i hk
      split
      · rename_i hn
        split
        · exact fun _ => And.intro (fun h2 => Bool.noConfusion h2) (fun _ => ⟨rfl, done, n, here, rfl, h, hk, hn⟩)
        · exact there_bad _ _ (by decide)
      · rename_i x hx
        split
        · split
          · exact there_bad _ _ (by decide)
          · rename_i g
            split
            · split
              · exact hf g rfl _
              · exact there_bad _ _ (by decide)
            · rename_i hz
              exact there_bad _ _ hz
        · exact walkIn_there t ht last follow hf rest (done ++ [n]) x ((go_app done [n] t here h).trans (go_one hs hk hx))
    · exact there_bad _ _ (by decide)
theorem follow_there (t : File) (ht : SortF t) (last : Bool) : ∀ (k : Nat) (g : List ByteArray → WR), followK t last k = some g → ∀ todo, There t (g todo)
  | 0, g, h => by simp [followK] at h
  | k + 1, g, h => by
    intro todo
    simp only [followK, Option.some.injEq] at h
    subst h
    exact walkIn_there t ht last (followK t last k) (follow_there t ht last k) todo [] t (by rw [goP])
theorem walk_there (t : File) (ht : rightT t = true) (p : List ByteArray) (last : Bool) : There t (walkR t p last) := by
  unfold walkR
  split
  · exact walkIn_there t (right_sort ht) last (followK t last 40) (follow_there t (right_sort ht) last 40) p [] t (by rw [goP])
  · exact there_bad _ _ (by decide)
theorem wrongL_all {rec : File → List ByteArray → Option (List ByteArray)} {p : List ByteArray} : ∀ {l : List File} {prev : Option ByteArray}, wrongL rec p prev l = none → ∀ x ∈ l, (∃ pr, badF pr (p ++ [x.name]) x = false) ∧ rec x (p ++ [x.name]) = none
  | [], prev, h, x, hx => by cases hx
  | y :: l, prev, h, x, hx => by
    rw [wrongL] at h
    split at h
    · cases h
    · rename_i hb
      split at h
      · cases h
      · rename_i hr
        rcases List.mem_cons.1 hx with rfl | hx
        · exact ⟨⟨prev, Bool.eq_false_iff.2 hb⟩, hr⟩
        · exact wrongL_all h x hx
theorem wrong_go : ∀ (q : List ByteArray) (n : Nat) (f : File) (p : List ByteArray), f.bulk ≤ n → wrongN n f p = none → ∀ d, goP f q = (0, some d) → ∀ x ∈ d.files, ∃ pr pp, badF pr pp x = false
  | q, 0, f, p, hn, h, d, hg, x, hx => by
    have := bulk_eq f
    omega
  | [], n + 1, f, p, hn, h, d, hg, x, hx => by
    rw [goP] at hg
    injection hg with _ hg
    injection hg with hg
    subst hg
    replace h : wrongL (wrongN n) p none f.files = none := h
    obtain ⟨⟨pr, hb⟩, _⟩ := wrongL_all h x hx
    exact ⟨pr, _, hb⟩
  | a :: q, n + 1, f, p, hn, h, d, hg, x, hx => by
    obtain ⟨y, hk, hy, hyn, hg2⟩ := goP_full hg
    replace h : wrongL (wrongN n) p none f.files = none := h
    have hm := List.mem_of_getElem? hy
    have hb := bulk_child hm
    exact wrong_go q n y _ (by omega) (wrongL_all h y hm).2 d hg2 x hx
theorem right_wrong {t : File} (h : rightT t = true) : wrongN t.bulk t [] = none ∧ t.kind = 1 := by
  unfold rightT checkR at h
  split at h
  · rename_i hk
    refine ⟨?_, hk.1⟩
    cases hw : wrongN t.bulk t [] with
    | none => rfl
    | some b => rw [hw] at h; simp [checkO] at h
  · simp at h
theorem right_name {t d x : File} {q : List ByteArray} (h : rightT t = true) (hg : goP t q = (0, some d)) (hx : x ∈ d.files) : x.name.size ≤ 255 := by
  obtain ⟨pr, pp, hb⟩ := wrong_go q t.bulk t [] (Nat.le_refl _) (right_wrong h).1 d hg x hx
  unfold badF at hb
  simp only [Bool.or_eq_false_iff, Bool.not_eq_false'] at hb
  have hn := hb.1.1.1
  unfold nameB at hn
  simp only [Bool.and_eq_true, decide_eq_true_iff] at hn
  have h2 := hn.1.1.1.2
  rwa [show x.name.data.toList.length = x.name.size from (Lib.size_eq x.name).symm] at h2
theorem ins_mem (l : List File) (x : File) : x ∈ insF l x := List.mem_of_getElem? (ins_at l x)
theorem bulk_ins_found {l : List File} {x y : File} (hf : foundB l x.name = true) (hy : l[lowB l x.name]? = some y) : bulkL (insF l x) + y.bulk = bulkL l + x.bulk := by
  have h1 := bulkL_cut l (lowB l x.name)
  unfold insF
  rw [if_pos hf, bulkL_app, bulkL_cons]
  obtain ⟨hlt, he⟩ := List.getElem?_eq_some_iff.1 hy
  rw [List.drop_eq_getElem_cons hlt, bulkL_cons, he] at h1
  omega
theorem bulk_del_at {l : List File} {n : ByteArray} {y : File} (hy : l[lowB l n]? = some y) : bulkL (delF l n) + y.bulk = bulkL l := by
  have h1 := bulkL_cut l (lowB l n)
  unfold delF
  rw [bulkL_app]
  obtain ⟨hlt, he⟩ := List.getElem?_eq_some_iff.1 hy
  rw [List.drop_eq_getElem_cons hlt, bulkL_cons, he] at h1
  omega
/-- What put leaves where it does. -/
theorem put_ok {t f : File} {q : List ByteArray} {n : ByteArray} (h : (putR t q n f).2 = 0) : ∃ d, goP t q = (0, some d) ∧ d.kind = 1 ∧ rightT t = true ∧ rightT (putR t q n f).1 = true ∧ (putR t q n f).1 = putP t q { d with files := insF d.files (nameF f n) } ∧ n.size ≤ 255 ∧ (putR t q n f).1.bulk + bulkL d.files = t.bulk + bulkL (insF d.files (nameF f n)) := by
  unfold putR at h ⊢
  split at h
  · rename_i hr
    rw [if_pos hr]
    cases hg : goP t q with
    | mk k o =>
    rw [hg] at h
    cases o with
    | none =>
      simp only at h
      exact absurd hg (by rw [h]; exact go_none0)
    | some d =>
    simp only at h ⊢
    obtain rfl := goP_zero q t d k hg
    split at h
    · rename_i hk
      split at h
      · rename_i hu
        rw [if_pos hk, if_pos hu]
        have hgu : goP (putP t q { d with files := insF d.files (nameF f n) }) q = (0, some { d with files := insF d.files (nameF f n) }) := go_put q t { d with files := insF d.files (nameF f n) } d hg rfl
        have h1 := bulk_put q t { d with files := insF d.files (nameF f n) } d 0 hg
        have h2 := bulk_with d (insF d.files (nameF f n))
        exact ⟨d, rfl, hk, hr, hu, rfl, right_name hu hgu (ins_mem d.files (nameF f n)), by simp only; omega⟩
      · simp at h
    · simp at h
  · simp at h
theorem putA_ok {t f : File} {p : List ByteArray} (h : (putA t p f).2 = 0) : ∃ q n, p = q ++ [n] ∧ (putR t q n f).2 = 0 ∧ putA t p f = putR t q n f := by
  rcases nil_or_snoc p with rfl | ⟨q, n, rfl⟩
  · rw [putA_nil] at h
    unfold nilR at h
    split at h <;> simp at h
  · rw [putA_snoc] at h ⊢
    exact ⟨q, n, rfl, h, rfl⟩
/-- What stands at q ++ [n] is the entry of its folder. -/
theorem go_last {t y : File} {q : List ByteArray} {n : ByteArray} {d : File} (hg : goP t q = (0, some d)) (hy : goP t (q ++ [n]) = (0, some y)) : d.files[lowB d.files n]? = some y ∧ y.name = n ∧ foundB d.files n = true := by
  rw [go_app q [n] t d hg] at hy
  obtain ⟨x, _, hx, hxn, hg2⟩ := goP_full hy
  rw [goP] at hg2
  injection hg2 with _ hg2
  injection hg2 with hg2
  subst hg2
  refine ⟨hx, hxn, ?_⟩
  unfold foundB
  rw [hx]
  simp [hxn]
theorem put_bulk_new {t f : File} {p : List ByteArray} (h : (putA t p f).2 = 0) : (putA t p f).1.bulk ≤ t.bulk + f.bulk + 255 := by
  obtain ⟨q, n, rfl, h2, h3⟩ := putA_ok h
  obtain ⟨d, hg, hk, hr, hu, he, hn, hb⟩ := put_ok h2
  rw [h3]
  have h4 := bulk_ins d.files (nameF f n)
  have h5 := bulk_name f n
  omega
theorem put_bulk_over {t f y : File} {p : List ByteArray} (h : (putA t p f).2 = 0) (hy : goP t p = (0, some y)) : (putA t p f).1.bulk + y.bulk ≤ t.bulk + f.bulk + 255 := by
  obtain ⟨q, n, rfl, h2, h3⟩ := putA_ok h
  obtain ⟨d, hg, hk, hr, hu, he, hn, hb⟩ := put_ok h2
  obtain ⟨h6, h7, h8⟩ := go_last hg hy
  rw [h3]
  have h4 := bulk_ins_found (x := nameF f n) h8 h6
  have h5 := bulk_name f n
  omega
theorem put_right {t f : File} {p : List ByteArray} (h : (putA t p f).2 = 0) : rightT (putA t p f).1 = true := by
  obtain ⟨q, n, rfl, h2, h3⟩ := putA_ok h
  obtain ⟨d, hg, hk, hr, hu, he, hn, hb⟩ := put_ok h2
  rw [h3]
  exact hu
theorem drop_ok {t y : File} {p : List ByteArray} (h : (dropA t p).2 = 0) (hy : goP t p = (0, some y)) : (dropA t p).1.bulk + y.bulk = t.bulk := by
  rcases nil_or_snoc p with rfl | ⟨q, n, rfl⟩
  · rw [dropA_nil] at h
    unfold nilR at h
    split at h <;> simp at h
  · rw [dropA_snoc] at h ⊢
    unfold dropR at h ⊢
    split at h
    · rename_i hr
      rw [if_pos hr]
      rw [hy] at h ⊢
      simp only at h ⊢
      cases hg : goP t q with
      | mk k o =>
      rw [hg] at h
      cases o with
      | none =>
        simp only at h
        exact absurd hg (by rw [h]; exact go_none0)
      | some d =>
      simp only
      obtain rfl := goP_zero q t d k hg
      have h1 := bulk_put q t { d with files := delF d.files n } d 0 hg
      have h2 := bulk_with d (delF d.files n)
      have h3 := bulk_del_at (go_last hg hy).1
      omega
    · simp at h
theorem putV_right {t s : File} {p : List ByteArray} (ht : rightT t = true) : rightT (putV t p s).1 = true := by
  unfold putV
  split
  · rename_i h; exact put_right h
  · exact ht
theorem text_bulk (d : ByteArray) (y : File) (x : ByteArray) (h : d = y.data ++ x) : (textF d).bulk ≤ y.bulk + x.size := by
  rw [textF_bulk, bulk_eq y, h, ByteArray.size_append]
  omega
theorem op_grows (k : Int) (t : File) (x : Req) (ht : rightT t = true) : rightT (opR k t x).1 = true ∧ (opR k t x).1.bulk ≤ t.bulk + x.data.size + 259 := by
  unfold opR
  split
  · unfold lstatR
    simp only
    split
    · split <;> exact ⟨ht, by simp only; omega⟩
    · exact ⟨ht, by simp only; omega⟩
  split
  · unfold readV
    simp only
    split
    · split
      · split <;> exact ⟨ht, by simp only; omega⟩
      · exact ⟨ht, by simp only; omega⟩
    · exact ⟨ht, by simp only; omega⟩
  split
  · unfold createR
    simp only
    split
    · split
      · exact ⟨ht, by simp only; omega⟩
      · refine ⟨putV_right ht, ?_⟩
        simp only
        unfold putV
        split
        · rename_i h
          have := put_bulk_new h
          rw [textF_bulk] at this
          have h0 : (⟨#[]⟩ : ByteArray).size = 0 := rfl
          omega
        · simp only; omega
    · exact ⟨ht, by simp only; omega⟩
  split
  · unfold appendR
    simp only
    split
    · rename_i hz
      split
      · rename_i hi
        split
        · exact ⟨ht, by simp only; omega⟩
        · refine ⟨putV_right ht, ?_⟩
          have hy := (walk_there t ht x.p true hz).1 hi
          simp only
          unfold putV
          split
          · rename_i h
            have h1 := put_bulk_over h hy
            have h2 := text_bulk _ (walkR t x.p true).2.1 x.data rfl
            omega
          · simp only; omega
      · exact ⟨ht, by simp only; omega⟩
    · exact ⟨ht, by simp only; omega⟩
  · unfold renameR
    simp only
    split
    · rename_i hz
      split
      · rename_i hi
        split
        · exact ⟨ht, by simp only; omega⟩
        · split
          · split
            · exact ⟨ht, by simp only; omega⟩
            · split
              · exact ⟨ht, by simp only; omega⟩
              · split
                · rename_i hd
                  split
                  · rename_i hu
                    have hy := (walk_there t ht x.p false hz).1 hi
                    have h1 := drop_ok hd hy
                    have h2 := put_bulk_new hu
                    exact ⟨put_right hu, by simp only; omega⟩
                  · exact ⟨ht, by simp only; omega⟩
                · exact ⟨ht, by simp only; omega⟩
          · exact ⟨ht, by simp only; omega⟩
      · exact ⟨ht, by simp only; omega⟩
    · exact ⟨ht, by simp only; omega⟩
theorem call_grows (f : FsV) (k : Int) (x : Req) (ht : rightT f.tree = true) : rightT (callV f k x).1.tree = true ∧ (callV f k x).1.tree.bulk ≤ f.tree.bulk + x.data.size + 259 ∧ (callV f k x).1.trace.length ≤ f.trace.length + 1 ∧ (callV f k x).1.faults = f.faults := by
  unfold callV
  split
  · simp only
    split
    · exact ⟨ht, by simp only; omega, by simp, trivial⟩
    · exact ⟨(op_grows k f.tree x ht).1, (op_grows k f.tree x ht).2, by simp, trivial⟩
  · exact ⟨ht, by simp only; omega, by simp only; omega, rfl⟩
end Go.Proofs.YthlcjjhfkldmhaaDoor.G
end
