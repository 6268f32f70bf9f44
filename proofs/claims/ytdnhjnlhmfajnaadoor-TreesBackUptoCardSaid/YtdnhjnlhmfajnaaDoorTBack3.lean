/- What is read is right: plain; no program in sight but for the types. -/
import Derived.Test.YtdnhjnlhmfajnaaDoorTBack2
namespace Go.Proofs.YtdnhjnlhmfajnaaDoor.G
open Go.RowKit Go.Lib Go.Proofs.YtdnhjnlhmfajnaaDoorW.PrintWords Go.Proofs.YtdnhjnlhmfajnaaDoorW.PrintLast
set_option linter.unusedVariables false

theorem kind_of (x : ByteArray) : kindOf x = 0 ∨ kindOk (kindOf x) := by
  unfold kindOf kindOk
  split
  · exact .inr (.inl rfl)
  · split
    · exact .inr (.inr (.inl rfl))
    · split
      · exact .inr (.inr (.inr rfl))
      · exact .inl rfl
theorem read_kind (s : ByteArray) (h : (readR s).rule = 0) : kindOk (readR s).kind ∧ ((readR s).kind = 1 → (readR s).data = ⟨#[]⟩) := by
  have hb : ∀ k, k ≠ 0 → ¬ (badR k).rule = 0 := fun k hk h => hk h
  unfold readR at h ⊢
  split at h
  · exact absurd h (hb 1 (by decide))
  · rename_i x hx
    by_cases hk : kindOf (mkS x.1) = 0
    · rw [if_pos hk] at h
      exact absurd h (hb 1 (by decide))
    · rw [if_neg hk] at h ⊢
      have hok := (kind_of (mkS x.1)).resolve_left hk
      generalize kindOf (mkS x.1) = k at *
      unfold restR at h ⊢
      split at h
      · rename_i y hy
        by_cases h1 : k = 1
        · rw [if_pos h1] at h ⊢
          split at h
          · rename_i hd
            rw [if_pos hd]
            exact ⟨.inl rfl, fun _ => rfl⟩
          · exact absurd h (hb 2 (by decide))
        · rw [if_neg h1] at h ⊢
          unfold dataR at h ⊢
          split at h
          · exact absurd h (hb 2 (by decide))
          · rename_i c r hl
            split at h
            · rename_i hc
              split at h
              · rename_i z hz
                split at h
                · rename_i hd
                  rw [if_pos hc, if_pos hd]
                  exact ⟨hok, fun e => absurd e h1⟩
                · exact absurd h (hb 2 (by decide))
              · exact absurd h (hb 2 (by decide))
            · exact absurd h (hb 2 (by decide))
      · exact absurd h (hb 2 (by decide))
theorem split_names (s : ByteArray) (h : (splitR s).2 = true) : ∀ n ∈ (splitR s).1, nameB n.data.toList = true := by
  unfold splitR at h ⊢
  split at h
  · cases h
  · rename_i c r hs
    split at h
    · rename_i hc
      rw [if_pos hc]
      split at h
      · rename_i hn
        rw [if_pos hn]
        unfold namesB at hn
        rw [List.all_eq_true] at hn
        exact hn
      · cases h
    · cases h
theorem pre_put2 : ∀ (q : List ByteArray) (f y d : File) (p : List ByteArray) (e : List ByteArray × File), goP f q = (0, some d) → y.name = d.name → y.kind = d.kind → y.data = d.data → d.kind = 1 → e ∈ preF p (putP f q y) →
    (∃ e0 ∈ preF p f, e0.1 = e.1 ∧ e0.2.name = e.2.name ∧ (e0.2 = e.2 ∨ (e0.2.kind = 1 ∧ e.2.kind = 1 ∧ e0.2.data = e.2.data))) ∨ e ∈ preF (p ++ q) y
  | [], f, y, d, p, e, h, hn, hk, hd, h1, he => by rw [putP] at he; exact .inr (by simpa using he)
  | n :: q, f, y, d, p, e, h, hn, hk, hd, h1, he => by
    obtain ⟨x, hfk, hx, hxn, hg⟩ := goP_full h
    rw [putP, hx] at he
    simp only at he
    obtain ⟨z, hz, hez⟩ := preF_mem.1 he
    rcases List.mem_or_eq_of_mem_set hz with hz | rfl
    · exact .inl ⟨e, preF_mem.2 ⟨z, hz, hez⟩, rfl, rfl, .inl rfl⟩
    · have hpn := putP_name q x y d 0 hg hn
      have hxk : x.kind = 1 ∧ (putP x q y).kind = 1 ∧ x.data = (putP x q y).data := by
        cases q with
        | nil =>
          rw [goP] at hg
          injection hg with _ hg
          injection hg with hg
          subst hg
          rw [putP]
          exact ⟨h1, hk.trans h1, hd.symm⟩
        | cons m q =>
          obtain ⟨_, hxk, _⟩ := goP_full hg
          obtain ⟨_, k2, k3⟩ := putP_keep x m q y
          exact ⟨hxk, k2.trans hxk, k3.symm⟩
      rcases hez with rfl | hez
      · exact .inl ⟨(p ++ [x.name], x), preF_child (List.mem_of_getElem? hx), by simp only [hpn], by simp only [hpn], .inr hxk⟩
      · rw [hpn] at hez
        rcases pre_put2 q x y d _ e hg hn hk hd h1 hez with ⟨e0, h0, h2⟩ | h0
        · exact .inl ⟨e0, preF_mem.2 ⟨x, List.mem_of_getElem? hx, .inr h0⟩, h2⟩
        · exact .inr (by rw [hxn] at h0; simpa using h0)
/-- What is kept from line to line, and that all is right. -/
structure Fine (t : File) (last : List ByteArray) : Prop where
  good : Good t last
  ok : ∀ y ∈ preF [] t, OkY y
theorem fine_root : Fine rootF [] := ⟨good_root, fun y hy => by rw [preF_eq] at hy; simp [rootF, preL] at hy⟩
theorem fine_add {t : File} {last p : List ByteArray} {d z : File} (h : Fine t last) (hp : p ≠ []) (hg : goP t p.dropLast = (0, some d)) (hd : d.kind = 1) (hz : z.files = []) (hn : z.name = p.getLastD ⟨#[]⟩) (hc : ¬ (last ≠ [] ∧ 0 ≤ cmpP last p)) (hnm : ∀ n ∈ p, nameB n.data.toList = true) (hl : p.length ≤ 64) (ha : aloneB z = true) : Fine (addP t p d z) p := by
  refine ⟨good_add h.good hp hg hz hn hc, fun y hy => ?_⟩
  have hpq : p = p.dropLast ++ [z.name] := by
    rw [hn]
    conv => lhs; rw [← List.dropLast_concat_getLast hp]
    congr 2
    cases p with
    | nil => exact absurd rfl hp
    | cons _ _ => rfl
  have hlast : z.name ∈ p := by rw [hpq]; simp
  unfold addP at hy
  rcases pre_put2 p.dropLast t (pushF d z) d [] y hg rfl rfl rfl hd hy with ⟨e0, h0, h1, h2, h3⟩ | h0
  · obtain ⟨a1, a2, a3⟩ := h.ok e0 h0
    refine ⟨by rw [← h2]; exact a1, by rw [← h1]; exact a2, ?_⟩
    rcases h3 with h3 | ⟨h3, h4, h5⟩
    · rw [← h3]; exact a3
    · unfold aloneB at a3 ⊢
      rw [if_pos h3] at a3
      rw [if_pos h4, ← h5]
      exact a3
  · obtain ⟨x, hx, hyx⟩ := preF_mem.1 h0
    rcases List.mem_append.1 (show x ∈ d.files ++ [z] from hx) with hx | hx
    · exact h.ok y (preF_go p.dropLast t d [] 0 y hg (preF_mem.2 ⟨x, hx, hyx⟩))
    · have hxz := List.mem_singleton.1 hx
      rw [hxz] at hyx
      rcases hyx with rfl | hyx
      · refine ⟨hnm _ hlast, ?_, ha⟩
        simp only [List.nil_append]
        rw [← hpq]
        exact hl
      · rw [preF_eq, hz] at hyx
        simp [preL] at hyx
theorem dir_some {t : File} {p : List ByteArray} {d : File} (h : dirO t p = some d) : p ≠ [] ∧ goP t p.dropLast = (0, some d) ∧ d.kind = 1 := by
  unfold dirO at h
  split at h
  · cases h
  · rename_i hp
    split at h
    · rename_i k y hg
      split at h
      · rename_i hk
        injection h with h
        subst h
        refine ⟨hp, ?_, hk⟩
        rw [hg, goP_zero _ _ _ _ hg]
      · cases h
    · cases h
theorem fine_line {t : File} {last : List ByteArray} {s : ByteArray} (h : Fine t last) (h0 : (lineR t last s).1 = 0) : Fine (lineR t last s).2.1 (lineR t last s).2.2 := by
  unfold lineR at h0 ⊢
  by_cases hr : (readR s).rule = 0
  · rw [if_pos hr] at h0 ⊢
    by_cases hs : (splitR (readR s).path).2 = true
    · rw [if_pos hs] at h0 ⊢
      by_cases hc : last ≠ [] ∧ 0 ≤ cmpP last (splitR (readR s).path).1
      · rw [if_pos hc] at h0
        simp at h0
      · rw [if_neg hc] at h0 ⊢
        cases hd : dirO t (splitR (readR s).path).1 with
        | none => rw [hd] at h0; simp at h0
        | some d =>
          rw [hd] at h0
          simp only at h0 ⊢
          by_cases hk : (readR s).kind = 3 ∧ targetB (readR s).data = false
          · rw [if_pos hk] at h0
            simp at h0
          · rw [if_neg hk]
            obtain ⟨hp, hg, hdk⟩ := dir_some hd
            obtain ⟨k1, k2⟩ := read_kind s hr
            obtain ⟨_, s2, _⟩ := split_size (readR s).path
            refine fine_add h hp hg hdk rfl rfl hc (split_names _ hs) (s2 hs).2 ?_
            unfold aloneB newF
            simp only
            rcases k1 with e | e | e
            · rw [if_pos e, k2 e, Lib.toList_data]; rfl
            · rw [if_neg (by omega), if_pos e]; rfl
            · rw [if_neg (by omega), if_neg (by omega), if_pos e]
              cases ht : targetB (readR s).data
              · exact absurd ⟨e, ht⟩ hk
              · rfl
    · rw [if_neg hs] at h0
      simp at h0
  · rw [if_neg hr] at h0
    exact absurd h0 hr
theorem fine_all : ∀ (ls : List (ByteArray × Bool)) (i : Nat) (t : File) (last : List ByteArray), Fine t last → ((readAll ls i t last).2.1 = 0 ∧ rightT (readAll ls i t last).1 = true) ∨ (readAll ls i t last).2.1 = 51
  | [], i, t, last, h => .inl ⟨rfl, (right_iff t).2 ⟨h.good.kind, h.good.name, h.good.data, h.good.sort, h.ok⟩⟩
  | l :: ls, i, t, last, h => by
    rw [readAll]
    split
    · exact fine_all ls _ t last h
    · split
      · rename_i h0
        exact fine_all ls _ _ _ (fine_line h h0)
      · exact .inr rfl
theorem read_right (s : ByteArray) : ((treeR s).2.1 = 0 ∧ rightT (treeR s).1 = true) ∨ (treeR s).2.1 = 51 := fine_all _ 0 _ _ fine_root
end Go.Proofs.YtdnhjnlhmfajnaaDoor.G
