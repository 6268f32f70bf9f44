/- The plain law of TreesTurns: what the program's Get, Put, Drop come to is what the reference's do. -/
import Derived.Test.YtdnhjnlhmfajnaaDoorTTurnsP
import Derived.Test.YtdnhjnlhmfajnaaDoorTTurnsW
import Derived.Test.YtdnhjnlhmfajnaaDoorTDrop
namespace Go.Proofs.YtdnhjnlhmfajnaaDoor.G
open Go.RowKit Go.Lib Go.Proofs.YtdnhjnlhmfajnaaDoorW.PrintWords Go.Proofs.YtdnhjnlhmfajnaaDoorW.PrintLast
set_option linter.unusedVariables false

def putA (t : File) (p : List ByteArray) (f : File) : File × Int := match p.getLast? with | none => nilR t | some n => putR t p.dropLast n f
def dropA (t : File) (p : List ByteArray) : File × Int := match p.getLast? with | none => nilR t | some n => dropR t p.dropLast n
theorem putA_nil (t f : File) : putA t [] f = nilR t := rfl
theorem dropA_nil (t : File) : dropA t [] = nilR t := rfl
theorem putA_snoc (t f : File) (q : List ByteArray) (n : ByteArray) : putA t (q ++ [n]) f = putR t q n f := by simp [putA]
theorem dropA_snoc (t : File) (q : List ByteArray) (n : ByteArray) : dropA t (q ++ [n]) = dropR t q n := by simp [dropA]
theorem nil_or_snoc (p : List ByteArray) : p = [] ∨ ∃ q n, p = q ++ [n] := by
  cases h : p.getLast? with
  | none => exact .inl (List.getLast?_eq_none_iff.1 h)
  | some n => exact .inr ⟨p.dropLast, n, by
      have hne : p ≠ [] := fun e => by subst e; simp at h
      rw [List.getLast?_eq_some_getLast hne] at h
      injection h with h
      rw [← h]
      exact (List.dropLast_concat_getLast hne).symm⟩
theorem rget_eq (t : File) (p : List ByteArray) : rgetR t p = getR t p := by
  unfold rgetR getR
  by_cases h : rightT t = true
  · rw [if_pos h, if_pos h]
    exact (get_findR (right_sort h) p).symm
  · rw [if_neg h, if_neg h]
theorem rput_eq (t f : File) (q : List ByteArray) (n : ByteArray) : rputR t q n f = putR t q n f := by
  unfold rputR putR
  by_cases h : rightT t = true
  · rw [if_pos h, if_pos h]
    have hg := go_findR q t (right_sort h)
    by_cases hz : (findR t q).2 = 0
    · rw [if_pos hz] at hg ⊢
      rw [hg]
      simp only
      have hw := with_put q t (findR t q).1 (nameF f n) (right_sort h) hg
      rw [show (nameF f n).name = n from rfl] at hw
      rw [hw]
    · rw [if_neg hz] at hg ⊢
      rw [hg]
  · rw [if_neg h, if_neg h]
theorem rdrop_eq (t : File) (q : List ByteArray) (n : ByteArray) : rdropR t (q ++ [n]) = dropR t q n := by
  unfold rdropR dropR
  by_cases h : rightT t = true
  · rw [if_pos h, if_pos h, if_neg (by simp)]
    have hg := go_findR (q ++ [n]) t (right_sort h)
    by_cases hz : (findR t (q ++ [n])).2 = 0
    · rw [if_pos hz] at hg ⊢
      rw [hg]
      simp only
      obtain ⟨d, h1, h2, h3, h4⟩ := go_split hg
      rw [h1]
      simp only
      have hf : foundB d.files n = true := by
        unfold foundB
        rw [h3]
        simp [h4]
      rw [with_drop zeroF q t d n (right_sort h) h1 hf]
    · rw [if_neg hz] at hg ⊢
      rw [hg]
  · rw [if_neg h, if_neg h]
theorem rdropA_eq (t : File) (p : List ByteArray) : rdropR t p = dropA t p := by
  rcases nil_or_snoc p with rfl | ⟨q, n, rfl⟩
  · rw [dropA_nil]
    rfl
  · rw [dropA_snoc, rdrop_eq]
theorem zero_bulk4 : zeroF.bulk = 4 := by rw [bulk_eq]; rfl
theorem nil_bulk (t : File) : (nilR t).1.bulk ≤ 4 := by
  unfold nilR
  split <;> exact Nat.le_of_eq zero_bulk4
theorem putA_bulk (t f : File) (p : List ByteArray) (hl : ∀ n ∈ p, n.size ≤ 1000000000) : (putA t p f).1.bulk ≤ t.bulk + f.bulk + 1000000004 := by
  rcases nil_or_snoc p with rfl | ⟨q, n, rfl⟩
  · rw [putA_nil]
    have := nil_bulk t
    omega
  · have hn := hl n (by simp)
    have hz := zero_bulk4
    have hb := bulk_name f n
    rw [putA_snoc]
    unfold putR
    split
    · cases hg : goP t q with
      | mk k o =>
        cases o with
        | none => simp only; omega
        | some d =>
          have h1 := bulk_putX (x := nameF f n) hg
          simp only
          split
          · split <;> simp only <;> omega
          · simp only; omega
    · simp only; omega
theorem dropA_bulk (t : File) (p : List ByteArray) : (dropA t p).1.bulk ≤ t.bulk + 4 := by
  rcases nil_or_snoc p with rfl | ⟨q, n, rfl⟩
  · rw [dropA_nil]
    have := nil_bulk t
    omega
  · have hz := zero_bulk4
    rw [dropA_snoc]
    unfold dropR
    split
    · cases hg : goP t (q ++ [n]) with
      | mk k o =>
        cases o with
        | none => simp only; omega
        | some y =>
          simp only
          cases hg2 : goP t q with
          | mk k2 o2 =>
            cases o2 with
            | none => simp only; omega
            | some d =>
              have h1 := bulk_dropX (n := n) hg2
              simp only
              omega
    · simp only; omega
/-- The contracts at any path. -/
def Ans (g : File × Int) (e : Ending) (w' : World) : Prop := ∃ A' c', e = .returned (.tuple #[.agg #[.string g.1.name, .int .u8 g.1.kind, .string g.1.data, .slice A' g.1.files.length c'], .int .i64 g.2]) ∧ g.1.files.length ≤ c' ∧ FileK.C w' A' g.1.files.length g.1.files
section
variable (t f : File) (A Af : Option Addr) (c cf : Nat) (Ap : Option Addr) (cp : Nat) (p : List ByteArray) (w : World)
theorem getC (ht : FileK.C w A t.files.length t.files) (hc : t.files.length ≤ c) (hbt : t.bulk ≤ 1000000000) (hp : Kd.C Kd.string w Ap p.length p) (hcp : p.length ≤ cp) (hpl : p.length ≤ 1000000000) : Calls Tryd.prog 20 #[.agg #[.string t.name, .int .u8 t.kind, .string t.data, .slice A t.files.length c], .slice Ap p.length cp] w fun e w' => Ans (getR t p) e w' ∧ Below w.heap.size w w' := by
  refine (show Calls Tryd.prog 20 #[fileV t A c, .slice Ap p.length cp] w _ from Get_calls t A c Ap cp p w ht hc (by omega) hp hcp (by omega)).mono ?_
  rintro e w' ⟨v, rfl, hR, hb⟩
  obtain ⟨A', c', rfl, hc', hC'⟩ := Kd.R_reads hR
  exact ⟨⟨A', c', rfl, hc', hC'⟩, hb⟩
theorem rgetC (ht : FileK.C w A t.files.length t.files) (hc : t.files.length ≤ c) (hbt : t.bulk ≤ 1000000000) (hp : Kd.C Kd.string w Ap p.length p) (hcp : p.length ≤ cp) (hpl : p.length ≤ 1000000000) : Calls Tryd.prog 21 #[.agg #[.string t.name, .int .u8 t.kind, .string t.data, .slice A t.files.length c], .slice Ap p.length cp] w fun e w' => Ans (getR t p) e w' ∧ Below w.heap.size w w' := by
  rw [← rget_eq]
  refine (show Calls Tryd.prog 21 #[fileV t A c, .slice Ap p.length cp] w _ from rget_calls t A c Ap cp p w ht hc hbt hp hcp hpl).mono ?_
  rintro e w' ⟨A', c', h1, h2, h3, hb⟩
  exact ⟨⟨A', c', h1, h2, h3⟩, hb⟩
theorem dropC (ht : FileK.C w A t.files.length t.files) (hc : t.files.length ≤ c) (hbt : t.bulk ≤ 1000000000) (hp : Kd.C Kd.string w Ap p.length p) (hcp : p.length ≤ cp) (hpl : p.length ≤ 1000000000) : Calls Tryd.prog 24 #[.agg #[.string t.name, .int .u8 t.kind, .string t.data, .slice A t.files.length c], .slice Ap p.length cp] w fun e w' => Ans (dropA t p) e w' ∧ Below w.heap.size w w' := by
  rcases nil_or_snoc p with rfl | ⟨q, n, rfl⟩
  · refine (show Calls Tryd.prog 24 #[fileV t A c, .slice Ap 0 cp] w _ from tdrop0_calls t A c Ap cp w ht hc hbt).mono ?_
    rintro e w' ⟨A', c', h1, h2, h3, hb⟩
    exact ⟨⟨A', c', h1, h2, h3⟩, hb⟩
  · rw [dropA_snoc]
    rw [List.length_append, List.length_singleton] at hcp hpl ⊢
    refine (show Calls Tryd.prog 24 #[fileV t A c, .slice Ap (q.length + 1) cp] w _ from drop_calls t A c Ap cp q n w ht hc hbt hp hcp (by omega)).mono ?_
    rintro e w' ⟨A', c', h1, h2, h3, hb⟩
    exact ⟨⟨A', c', h1, h2, h3 w' fun _ _ _ => rfl⟩, hb⟩
theorem rdropC (ht : FileK.C w A t.files.length t.files) (hc : t.files.length ≤ c) (hbt : t.bulk ≤ 1000000000) (hp : Kd.C Kd.string w Ap p.length p) (hcp : p.length ≤ cp) (hpl : p.length ≤ 1000000000) : Calls Tryd.prog 25 #[.agg #[.string t.name, .int .u8 t.kind, .string t.data, .slice A t.files.length c], .slice Ap p.length cp] w fun e w' => Ans (dropA t p) e w' ∧ Below w.heap.size w w' := by
  rw [← rdropA_eq]
  refine (show Calls Tryd.prog 25 #[fileV t A c, .slice Ap p.length cp] w _ from rdrop_calls t A c Ap cp p w ht hc hbt hp hcp hpl).mono ?_
  rintro e w' ⟨A', c', h1, h2, h3, hb⟩
  exact ⟨⟨A', c', h1, h2, h3⟩, hb⟩
theorem putC (ht : FileK.C w A t.files.length t.files) (hc : t.files.length ≤ c) (hbt : t.bulk ≤ 1000000000) (hp : Kd.C Kd.string w Ap p.length p) (hcp : p.length ≤ cp) (hpl : p.length ≤ 1000000000) (hf : FileK.C w Af f.files.length f.files) (hcf : f.files.length ≤ cf) (hbf : f.bulk ≤ 1000000000) (hn : ∀ n ∈ p, n.size ≤ 1000000000) : Calls Tryd.prog 22 #[.agg #[.string t.name, .int .u8 t.kind, .string t.data, .slice A t.files.length c], .slice Ap p.length cp, .agg #[.string f.name, .int .u8 f.kind, .string f.data, .slice Af f.files.length cf]] w fun e w' => Ans (putA t p f) e w' ∧ Below w.heap.size w w' := by
  rcases nil_or_snoc p with rfl | ⟨q, n, rfl⟩
  · refine (show Calls Tryd.prog 22 #[fileV t A c, .slice Ap 0 cp, fileV f Af cf] w _ from tput0_calls t f A Af c cf Ap cp w ht hc hbt).mono ?_
    rintro e w' ⟨A', c', h1, h2, h3, hb⟩
    exact ⟨⟨A', c', h1, h2, h3⟩, hb⟩
  · rw [putA_snoc]
    have hn1 := hn n (by simp)
    rw [List.length_append, List.length_singleton] at hcp hpl ⊢
    refine (show Calls Tryd.prog 22 #[fileV t A c, .slice Ap (q.length + 1) cp, fileV f Af cf] w _ from put_calls t f A Af c cf Ap cp q n w ht hc hbt hf hcf hbf hn1 hp hcp (by omega)).mono ?_
    rintro e w' ⟨A', c', h1, h2, h3, hb⟩
    exact ⟨⟨A', c', h1, h2, h3⟩, hb⟩
theorem rputC (ht : FileK.C w A t.files.length t.files) (hc : t.files.length ≤ c) (hbt : t.bulk ≤ 1000000000) (hp : Kd.C Kd.string w Ap p.length p) (hcp : p.length ≤ cp) (hpl : p.length ≤ 1000000000) (hf : FileK.C w Af f.files.length f.files) (hcf : f.files.length ≤ cf) (hbf : f.bulk ≤ 1000000000) (hn : ∀ n ∈ p, n.size ≤ 1000000000) : Calls Tryd.prog 23 #[.agg #[.string t.name, .int .u8 t.kind, .string t.data, .slice A t.files.length c], .slice Ap p.length cp, .agg #[.string f.name, .int .u8 f.kind, .string f.data, .slice Af f.files.length cf]] w fun e w' => Ans (putA t p f) e w' ∧ Below w.heap.size w w' := by
  rcases nil_or_snoc p with rfl | ⟨q, n, rfl⟩
  · refine (show Calls Tryd.prog 23 #[fileV t A c, .slice Ap 0 cp, fileV f Af cf] w _ from rput0_calls t f A Af c cf Ap cp w ht hc hbt).mono ?_
    rintro e w' ⟨A', c', h1, h2, h3, hb⟩
    exact ⟨⟨A', c', h1, h2, h3⟩, hb⟩
  · rw [putA_snoc, ← rput_eq]
    have hn1 := hn n (by simp)
    rw [List.length_append, List.length_singleton] at hcp hpl ⊢
    refine (show Calls Tryd.prog 23 #[fileV t A c, .slice Ap (q.length + 1) cp, fileV f Af cf] w _ from rput_calls t f A Af c cf Ap cp q n w ht hc hbt hf hcf hbf hn1 hp hcp (by omega)).mono ?_
    rintro e w' ⟨A', c', h1, h2, h3, hb⟩
    exact ⟨⟨A', c', h1, h2, h3⟩, hb⟩
end
theorem sameC (x : File) (A B : Option Addr) (c d : Nat) (W : World) (hx : x.bulk ≤ 1099511627776) (hA : FileK.C W A x.files.length x.files) (hc : x.files.length ≤ c) (hB : FileK.C W B x.files.length x.files) (hd : x.files.length ≤ d) :
    Calls Tryd.prog 11 #[.agg #[.string x.name, .int .u8 x.kind, .string x.data, .slice A x.files.length c], .agg #[.string x.name, .int .u8 x.kind, .string x.data, .slice B x.files.length d]] W fun e w' => e = .returned (.bool true) ∧ Below W.heap.size W w' :=
  (show Calls Tryd.prog 11 #[fileV x A c, fileV x B d] W _ from rsame_file _ x x A c B d W (Nat.le_refl _) hx hA hc hB hd).mono (by
    rintro e w' ⟨rfl, hb⟩
    exact ⟨by rw [sameT_self], hb⟩)
theorem rcopyC (x : File) (A : Option Addr) (c : Nat) (W : World) (hx : x.bulk ≤ 1099511627776) (hA : FileK.C W A x.files.length x.files) (hc : x.files.length ≤ c) :
    Calls Tryd.prog 12 #[.agg #[.string x.name, .int .u8 x.kind, .string x.data, .slice A x.files.length c]] W fun e w' => ∃ A' c', e = .returned (.agg #[.string x.name, .int .u8 x.kind, .string x.data, .slice A' x.files.length c']) ∧ x.files.length ≤ c' ∧ FileK.C w' A' x.files.length x.files ∧ Below W.heap.size W w' := by
  refine (show Calls Tryd.prog 12 #[fileV x A c] W _ from rcopy_file x.bulk x A c W (Nat.le_refl _) hx hA hc).mono ?_
  rintro e w' ⟨v, rfl, hR, hb⟩
  obtain ⟨A', c', rfl, hc', hC'⟩ := Kd.R_reads hR
  exact ⟨A', c', rfl, hc', hC', hb⟩
end Go.Proofs.YtdnhjnlhmfajnaaDoor.G
