/- A file that comes into a tree in memory: plain. -/
import Derived.Test.YtdnhjnlhmfajnaaDoorTGrow
namespace Go.Proofs.YtdnhjnlhmfajnaaDoor.G
open Go.RowKit Go.Lib Go.Proofs.YtdnhjnlhmfajnaaDoorW.PrintWords Go.Proofs.YtdnhjnlhmfajnaaDoorW.PrintLast
set_option linter.unusedVariables false

/-- The tree, in the box tb, its rows apart. -/
structure Held (tb B : Nat) (t : File) (v : Value) (bl : List Nat) (w : World) : Prop where
  box : w.heap[tb]? = some (.cells #[.string t.name, .int .u8 t.kind, .string t.data, v] 25 (0, 0))
  ft : FT B t w v bl
  nd : bl.Nodup
  lt : tb < B
theorem Held.below {tb B : Nat} {t : File} {v : Value} {bl : List Nat} {w w' : World} (h : Held tb B t v bl w) (hb : Below w.heap.size w w') : Held tb B t v bl w' :=
  ⟨(hb.block tb (blk_lt h.box)).trans h.box, FT_move B t w w' v bl h.ft fun k hk => hb.block k (FT_lt B t w v bl h.ft k hk).1, h.nd, h.lt⟩
theorem Held.at {tb B : Nat} {t : File} {v : Value} {bl : List Nat} {w : World} (h : Held tb B t v bl w) : ∃ A c, v = .slice A t.files.length c ∧ FileAt w ⟨tb, 0, none⟩ t A c := by
  obtain ⟨A, c, rfl, hc, hC⟩ := FT_reads B t w v bl h.ft
  exact ⟨A, c, rfl, cell_of h.box rfl, cell_of h.box rfl, cell_of h.box rfl, cell_of h.box rfl, hc, hC⟩
/-- What is not the tree's. -/
def Off (tb : Nat) (bl : List Nat) (j : Nat) : Prop := j ∉ bl ∧ j ≠ tb

mutual
theorem FT_cells (B : Nat) : ∀ (x : File) (w : World) (v : Value) (bl : List Nat), FT B x w v bl → ∀ k ∈ bl, ∃ cs, w.heap[k]? = some (.cells cs 25 (0, 0))
  | ⟨_, _, _, l⟩, w, v, bl, h => by
    rw [FT] at h
    rcases h with ⟨_, _, rfl⟩ | ⟨g, inner, bs, hv, rfl, ho, hl⟩
    · intro k hk; cases hk
    · intro k hk
      rcases List.mem_cons.1 hk with rfl | hk
      · rcases ho.2 with ⟨hv0, _⟩ | ⟨g', cap, cur, hvv, hb, hg, hnc, hcm, hcs, htake⟩
        · rw [hv0] at hv
          simp [Value.ownBlock] at hv
        · rw [hvv] at hv
          injection hv with hv
          subst hv
          exact ⟨_, hg⟩
      · exact LT_cells B l w inner bs hl k hk
theorem LT_cells (B : Nat) : ∀ (l : List File) (w : World) (inner : List Value) (bs : List Nat), LT B l w inner bs → ∀ k ∈ bs, ∃ cs, w.heap[k]? = some (.cells cs 25 (0, 0))
  | [], w, inner, bs, h => by
    rw [LT] at h
    obtain ⟨_, rfl⟩ := h
    intro k hk; cases hk
  | x :: l, w, inner, bs, h => by
    rw [LT] at h
    obtain ⟨v, bx, br, rest, h1, rfl, h3, h4⟩ := h
    intro k hk
    rcases List.mem_append.1 hk with hk | hk
    · exact FT_cells B x w v bx h3 k hk
    · exact LT_cells B l w rest br h4 k hk
end
theorem FT_own {B : Nat} {d : File} {W : World} {v : Value} {bl : List Nat} (h : FT B d W v bl) (hN : bl.Nodup) :
    ∃ inner bs, W.ownsRow B 25 4 v d.files.length inner ∧ LT B d.files W inner bs ∧ bs.Nodup ∧ (∀ k ∈ bs, k ∈ bl ∧ v.ownBlock ≠ some k) ∧ (∀ k, v.ownBlock = some k → k ∈ bl) := by
  rw [FT_eq] at h
  rcases h with ⟨h0, rfl, rfl⟩ | ⟨g, inner, bs, hv, rfl, ho, hL⟩
  · exact ⟨[], [], (by rw [h0]; exact own_nil _ _ _ _), (by rw [h0, LT]; exact ⟨rfl, rfl⟩), List.nodup_nil, (fun k hk => absurd hk List.not_mem_nil), (fun k hk => by cases hk)⟩
  · have hn := List.nodup_cons.1 hN
    refine ⟨inner, bs, ho, hL, hn.2, fun k hk => ⟨List.mem_cons_of_mem _ hk, fun e => ?_⟩, fun k hk => ?_⟩
    · rw [hv] at e
      injection e with e
      exact hn.1 (e ▸ hk)
    · rw [hv] at hk
      injection hk with hk
      rw [hk]
      exact List.mem_cons_self
theorem FT_push {B : Nat} {d z : File} {W W' : World} {v v2 : Value} {inner : List Value} {bs : List Nat} (hL : LT B d.files W inner bs) (hN : bs.Nodup) (hv : ∀ k ∈ bs, v.ownBlock ≠ some k) (hz : z.files = []) (hm : ∀ k ∈ bs, W'.heap[k]? = W.heap[k]?)
    (ho : W'.ownsRow B 25 4 v2 (d.files.length + 1) (inner ++ [.string z.name, .int .u8 z.kind, .string z.data, .slice none 0 0])) (h2 : v2.ownBlock = v.ownBlock ∨ ∃ N, v2.ownBlock = some N ∧ W.heap.size ≤ N) :
    ∃ g2, v2.ownBlock = some g2 ∧ FT B (pushF d z) W' v2 (g2 :: bs) ∧ (g2 :: bs).Nodup ∧ (v.ownBlock = some g2 ∨ W.heap.size ≤ g2) := by
  obtain ⟨g2, hg2⟩ : ∃ g2, v2.ownBlock = some g2 := by
    rcases ho.2 with ⟨_, h0⟩ | ⟨g', cap, cur, hvv, _⟩
    · omega
    · exact ⟨g', by rw [hvv]; rfl⟩
  have hor : v.ownBlock = some g2 ∨ W.heap.size ≤ g2 := by
    rcases h2 with h2 | ⟨N, h2, hN⟩
    · exact .inl (h2.symm.trans hg2)
    · rw [hg2] at h2
      injection h2 with h2
      exact .inr (h2 ▸ hN)
  refine ⟨g2, hg2, ?_, List.nodup_cons.2 ⟨fun hk => ?_, hN⟩, hor⟩
  · rw [FT_eq]
    refine .inr ⟨g2, _, bs, hg2, rfl, ?_, LT_push B d.files W' inner bs z (LT_move B _ W W' inner bs hL hm) hz⟩
    show W'.ownsRow B _ 4 v2 (d.files ++ [z]).length _
    rw [List.length_append]
    exact ho
  · rcases hor with h | h
    · exact hv _ hk h
    · have := (LT_lt B _ _ _ _ hL _ hk).1
      omega
/-- The place where a file comes in. -/
theorem sprout {tb B : Nat} {t d : File} {v : Value} {bl : List Nat} {W : World} {q : List ByteArray} {ad' : Addr} (h : Held tb B t v bl W) (hr : Reach W ⟨tb, 0, none⟩ t q ad' d) :
    ∃ (g o : Nat) (v' : Value) (inner : List Value), ad' = ⟨g, o, none⟩ ∧ W.cell? ⟨g, o + 3, none⟩ = some v' ∧ (∃ cs, W.heap[g]? = some (.cells cs 25 (0, 0))) ∧ (g = tb ∨ g ∈ bl) ∧ W.ownsRow B 25 4 v' d.files.length inner ∧ (∀ k, v'.ownBlock = some k → k ∈ bl ∧ k ≠ g) ∧
      ∀ (W' : World) (v2 : Value) (z : File), z.files = [] → (∀ k, k = tb ∨ k ∈ bl → k ≠ g → v'.ownBlock ≠ some k → W'.heap[k]? = W.heap[k]?) → W'.heap[g]? = (W.setCell ⟨g, o + 3, none⟩ v2).heap[g]? →
        W'.ownsRow B 25 4 v2 (d.files.length + 1) (inner ++ [.string z.name, .int .u8 z.kind, .string z.data, .slice none 0 0]) → (v2.ownBlock = v'.ownBlock ∨ ∃ N, v2.ownBlock = some N ∧ W.heap.size ≤ N) →
        ∃ v3 bl2, Held tb B (putP t q (pushF d z)) v3 bl2 W' ∧ ∀ k ∈ bl2, k ∈ bl ∨ W.heap.size ≤ k := by
  have hlt := FT_lt B t W v bl h.ft
  cases q with
  | nil =>
    obtain ⟨rfl, rfl⟩ := hr
    obtain ⟨inner, bs, ho, hL, hbn, hbs, hvb⟩ := FT_own h.ft h.nd
    refine ⟨tb, 0, v, inner, rfl, cell_of h.box rfl, ⟨_, h.box⟩, .inl rfl, ho, fun k hk => ⟨hvb k hk, fun e => ?_⟩, fun W' v2 z hz hO hg hrow h2 => ?_⟩
    · have := (hlt k (hvb k hk)).2
      have := h.lt
      omega
    · obtain ⟨g2, hg2, hF, hN, hor⟩ := FT_push hL hbn (fun k hk => (hbs k hk).2) hz (fun k hk => hO k (.inr (hbs k hk).1) (fun e => by
        have := (hlt k (hbs k hk).1).2
        have := h.lt
        omega) (hbs k hk).2) hrow h2
      refine ⟨v2, g2 :: bs, ⟨?_, by rw [putP]; exact hF, hN, h.lt⟩, fun k hk => ?_⟩
      · rw [hg, putP]
        exact blk_put (cs := #[.string d.name, .int .u8 d.kind, .string d.data, v]) h.box 3 _ rfl
      · rcases List.mem_cons.1 hk with rfl | hk
        · exact hor.imp (fun e => hvb _ e) id
        · exact .inl (hbs k hk).1
  | cons n q =>
    obtain ⟨g, o, v', by_, rfl, hgb, hc, hF, hby, hbn, hT⟩ := focus B W q n t ⟨tb, 0, none⟩ ad' d v bl (cell_of h.box rfl) h.ft h.nd hr
    obtain ⟨inner, bs, ho, hL, hbsn, hbs, hvb⟩ := FT_own hF hbn
    refine ⟨g, o, v', inner, rfl, hc, FT_cells B t W v bl h.ft g hgb, .inr hgb, ho, fun k hk => hby k (hvb k hk), fun W' v2 z hz hO hg hrow h2 => ?_⟩
    have hm : ∀ k ∈ bs, W'.heap[k]? = W.heap[k]? := fun k hk => hO k (.inr (hby k (hbs k hk).1).1) (hby k (hbs k hk).1).2 (hbs k hk).2
    obtain ⟨g2, hg2, hF2, hN2, hor⟩ := FT_push hL hbsn (fun k hk => (hbs k hk).2) hz hm hrow h2
    obtain ⟨bl', hF', hn', hs'⟩ := hT W' v2 (pushF d z) (g2 :: bs) (fun k hk h1 h3 => hO k (.inr hk) h1 (fun e => h3 (hvb k e))) hg hF2 rfl rfl rfl hN2 (fun k hk => by
      rcases List.mem_cons.1 hk with rfl | hk
      · rcases hor with e | e
        · exact .inl (hvb _ e)
        · exact .inr fun hk => by have := (hlt _ hk).1; omega
      · exact .inl (hbs k hk).1)
    obtain ⟨k1, k2, k3⟩ := putP_keep t n q (pushF d z)
    have htb : ∀ k ∈ bl, k ≠ tb := fun k hk e => by
      have := (hlt k hk).2
      have := h.lt
      omega
    refine ⟨v, bl', ⟨?_, hF', hn', h.lt⟩, fun k hk => ?_⟩
    · rw [k1, k2, k3]
      exact (hO tb (.inl rfl) (fun e => htb g hgb e.symm) (fun e => htb tb (hby tb (hvb tb e)).1 rfl)).trans h.box
    · rcases hs' k hk with hk | hk
      · exact .inl hk
      · rcases List.mem_cons.1 hk with rfl | hk
        · exact hor.imp (fun e => (hby _ (hvb _ e)).1) id
        · exact .inl (hby k (hbs k hk).1).1
end Go.Proofs.YtdnhjnlhmfajnaaDoor.G
