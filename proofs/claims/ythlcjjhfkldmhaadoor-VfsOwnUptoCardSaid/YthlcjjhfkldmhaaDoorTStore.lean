/- Four cells of a box written; a file by its name: plain. -/
import Derived.Test.YthlcjjhfkldmhaaDoorTFind
import Derived.Test.YthlcjjhfkldmhaaDoorTRight
import Derived.Laws.ResultCell
set_option linter.unusedVariables false
set_option linter.unusedSimpArgs false
section
namespace Go.Proofs.YthlcjjhfkldmhaaDoor.G
open Go.RowKit Go.Lib Go.Proofs.YthlcjjhfkldmhaaDoorW.PrintWords Go.Proofs.YthlcjjhfkldmhaaDoorW.PrintLast
set_option linter.unusedVariables false

mutual
/-- Names rise in every folder. -/
def SortF : File → Prop
  | ⟨_, _, _, l⟩ => SortedN l ∧ SortL l
def SortL : List File → Prop
  | [] => True
  | x :: l => SortF x ∧ SortL l
end
theorem SortF_eq (f : File) : SortF f = (SortedN f.files ∧ SortL f.files) := by cases f; rw [SortF]
theorem SortL_mem : ∀ {l : List File}, SortL l ↔ ∀ x ∈ l, SortF x
  | [] => by simp [SortL]
  | x :: l => by rw [SortL, SortL_mem]; simp
/-- The file at a path. -/
def goP : File → List ByteArray → Int × Option File
  | f, [] => (0, some f)
  | f, n :: p => if f.kind = 1 then (match f.files[lowB f.files n]? with | some x => if x.name.toList == n.toList then goP x p else (31, none) | none => (31, none)) else (32, none)
/-- A file's cells at an address. -/
structure FileAt (w : World) (ad : Addr) (f : File) (A : Option Addr) (c : Nat) : Prop where
  c0 : w.cell? ad = some (.string f.name)
  c1 : w.cell? ⟨ad.block, ad.off + 1, none⟩ = some (.int .u8 f.kind)
  c2 : w.cell? ⟨ad.block, ad.off + 2, none⟩ = some (.string f.data)
  c3 : w.cell? ⟨ad.block, ad.off + 3, none⟩ = some (.slice A f.files.length c)
  le : f.files.length ≤ c
  ch : FileK.C w A f.files.length f.files
/-- How a path leads from one address to another. -/
def Reach (w : World) : Addr → File → List ByteArray → Addr → File → Prop
  | ad, f, [], ad', y => ad' = ad ∧ y = f
  | ad, f, n :: p, ad', y => ∃ (b : Addr) (c : Nat) (x : File), w.cell? ⟨ad.block, ad.off + 3, none⟩ = some (.slice (some b) f.files.length c) ∧ f.files[lowB f.files n]? = some x ∧ Reach w (b.add (lowB f.files n * 4)) x p ad' y
theorem Reach_snoc {w : World} {n : ByteArray} : ∀ {p : List ByteArray} {ad : Addr} {f : File} {ad1 : Addr} {y1 : File} {b : Addr} {c : Nat} {x : File}, Reach w ad f p ad1 y1 → w.cell? ⟨ad1.block, ad1.off + 3, none⟩ = some (.slice (some b) y1.files.length c) → y1.files[lowB y1.files n]? = some x → Reach w ad f (p ++ [n]) (b.add (lowB y1.files n * 4)) x
  | [], ad, f, ad1, y1, b, c, x, ⟨h1, h2⟩, hc, hx => by subst h1; subst h2; exact ⟨b, c, x, hc, hx, rfl, rfl⟩
  | _ :: p, ad, f, ad1, y1, b, c, x, ⟨b', c', x', h1, h2, h3⟩, hc, hx => ⟨b', c', x', h1, h2, Reach_snoc h3 hc hx⟩

set_option maxHeartbeats 4000000 in
set_option maxRecDepth 100000 in
theorem get_calls (f : File) (ad : Addr) (A : Option Addr) (c : Nat) (Ap : Option Addr) (cp : Nat) (p : List ByteArray) (w : World) (hf : FileAt w ad f A c) (hbk : f.bulk ≤ 1099511627776) (hs : SortF f) (hp : Kd.C Kd.string w Ap p.length p) (hcp : p.length ≤ cp) (hpl : p.length ≤ 1099511627776) :
    Calls Tryd.prog 46 #[.pointer (some ad), .slice Ap p.length cp] w fun e w' => Below w.heap.size w w' ∧ ((∃ ad' y A' c', goP f p = (0, some y) ∧ e = .returned (.tuple #[.pointer (some ad'), .int .i64 0]) ∧ FileAt w ad' y A' c' ∧ Reach w ad f p ad' y ∧ y.bulk ≤ f.bulk ∧ SortF y) ∨ (∃ k, k ≠ 0 ∧ goP f p = (k, none) ∧ e = .returned (.tuple #[.pointer none, .int .i64 k]))) := by
  have HP := Lib.hid hp
  have HFS := Lib.hid (fun (A : Option Addr) (c : Nat) (l : List File) n W h1 h2 h3 h4 => find_calls A c l n W h1 h2 h3 h4)
  clear hp
  go_enter Tryd.func46, Tryd.ntmps46
  go_wp2_with fail
  go_loopw [0, 12] (fun vt vi wr => ∃ (k : Nat) (ad1 : Addr) (y : File) (A1 : Option Addr) (c1 : Nat), k ≤ p.length ∧ vt = .pointer (some ad1) ∧ vi = .int .i64 k ∧ Below w.heap.size w wr ∧ Hid (FileAt w ad1 y A1 c1) ∧ Hid (Reach w ad f (p.take k) ad1 y) ∧ Hid (goP f p = goP y (p.drop k)) ∧ y.bulk ≤ f.bulk ∧ Hid (SortF y)) (fun _ vi _ => p.length - (RowKit.intOf vi).toNat)
  case atStart => exact ⟨0, ad, f, A, c, by omega, rfl, rfl, Below.refl _ _, Lib.hid hf, Lib.hid ⟨rfl, rfl⟩, Lib.hid rfl, Nat.le_refl _, Lib.hid hs⟩
  case round =>
    obtain ⟨k, ad1, y, A1, c1, hk, rfl, rfl, hb, HA, HRe, HG, hyb, HS⟩ := hrel
    by_cases hlt : k < p.length
    · obtain ⟨pad, rfl, hx⟩ := Kd.at_string HP.out (k : Int) (by omega) (by omega)
      rw [Int.toNat_natCast] at hx
      have he : rdOf ByteArray.empty p (k : Int) = p[k] := by simp [rdOf, hlt]
      rw [he] at hx
      have hx' := (hb.cell (World.block_lt_of_cell? w _ hx)).trans hx
      have q1 := (hb.cell (World.block_lt_of_cell? w _ HA.out.c1)).trans HA.out.c1
      have q3 := (hb.cell (World.block_lt_of_cell? w _ HA.out.c3)).trans HA.out.c3
      have hdr : p.drop k = p[k] :: p.drop (k + 1) := List.drop_eq_getElem_cons hlt
      have htk : p.take (k + 1) = p.take k ++ [p[k]] := List.take_succ_eq_append_getElem hlt
      have hgo := HG.out
      rw [hdr, goP] at hgo
      have HTK := Lib.hid htk
      clear he hx hdr htk HG
      generalize p[k] = n at *
      have g1 : (k : Int) < (p.length : Int) := by omega
      by_cases hk1 : y.kind = 1
      · rw [if_pos hk1] at hgo
        have hye := bulk_eq y
        have hyl := bulkL_len y.files
        have hss := HS.out
        rw [SortF_eq] at hss
        have HFI := Lib.hid (HFS.out A1 c1 y.files n wr (Kd.C_below HA.out.ch hb) HA.out.le (by omega) hss.1)
        have HFD : Hid (foundB y.files n = match y.files[lowB y.files n]? with | some x => x.name.toList == n.toList | none => false) := Lib.hid rfl
        have HGO := Lib.hid hgo
        have HSS := Lib.hid hss.2
        clear hgo hss hye hyl
        go_wp2_with fail
        refine HFI.out.mono ?_
        rintro e w1 ⟨rfl, hb1⟩
        have hb' := bstep hb hb.size hb1
        have hlw := low_le y.files n
        clear q1 q3 hx'
        have q3 := (hb'.cell (World.block_lt_of_cell? w _ HA.out.c3)).trans HA.out.c3
        obtain ⟨i, hi⟩ : ∃ i, lowB y.files n = i := ⟨_, rfl⟩
        rw [hi] at HGO HFD hlw ⊢
        have HIL := Lib.hid hi
        clear hi
        cases hfb : foundB y.files n
        · have hgo := HGO.out
          have hfd := HFD.out
          rw [hfb] at hfd
          have hg31 : goP f p = (31, none) := by
            rw [hgo]
            cases hx : y.files[i]? with
            | none => rfl
            | some x => rw [hx] at hfd; simp only at hfd ⊢; rw [if_neg (by rw [← hfd]; decide)]
          clear hgo hfd
          go_wp2_with fail
          go_ret2
          exact ⟨hb', .inr ⟨31, by decide, hg31, rfl⟩⟩
        · have hgo := HGO.out
          have hfd := HFD.out
          rw [hfb] at hfd
          have hil : i < y.files.length := by
            rcases Nat.lt_or_ge i y.files.length with h | h
            · exact h
            · rw [List.getElem?_eq_none h] at hfd
              cases hfd
          have hge := List.getElem?_eq_getElem hil
          rw [hge] at hgo hfd
          simp only at hgo hfd
          rw [if_pos hfd.symm] at hgo
          obtain ⟨b, A', c', rfl, p1, p2, p3, p4, hc', hC'⟩ := file_at HA.out.ch i hil
          have hmem := List.getElem_mem hil
          have HAN : Hid (FileAt w (b.add (i * 4)) y.files[i] A' c') := Lib.hid ⟨p1, p2, p3, p4, hc', hC'⟩
          have HRN : Hid (Reach w ad f (p.take (k + 1)) (b.add (i * 4)) y.files[i]) := Lib.hid (by have hsn := Reach_snoc (n := n) HRe.out HA.out.c3 (by rw [HIL.out]; exact hge); rw [HIL.out] at hsn; rw [HTK.out]; exact hsn)
          have hbb : y.files[i].bulk ≤ f.bulk := by have := bulk_child hmem; omega
          have HSN : Hid (SortF y.files[i]) := Lib.hid (SortL_mem.1 HSS.out _ hmem)
          have HGN := Lib.hid hgo
          clear hgo hfd hge p1 p2 p3 p4 hC' hmem HGO
          generalize y.files[i] = x at *
          have g2 : (i : Int) < (y.files.length : Int) := by omega
          go_wp2_with fail
          go_roundw
          case rel => exact ⟨k + 1, b.add (i * 4), x, A', c', by omega, by go_num, by go_num, hb', HAN, HRN, HGN, hbb, HSN⟩
          case measure => simp [RowKit.intOf]; omega
      · rw [if_neg hk1] at hgo
        have k1 : (y.kind != 1) = true := by rw [bne_iff_ne]; exact hk1
        go_wp2_with fail
        go_ret2
        exact ⟨hb, .inr ⟨32, by decide, hgo, rfl⟩⟩
    · obtain rfl : k = p.length := by omega
      rw [List.drop_length] at HG
      rw [List.take_length] at HRe
      go_wp2_with fail
      go_ret2
      exact ⟨hb, .inl ⟨ad1, y, A1, c1, by rw [HG.out, goP], rfl, HA.out, HRe.out, hyb, HS.out⟩⟩

/-- Names that are right rise. -/
theorem wrongL_none (rec : File → List ByteArray → Option (List ByteArray)) (p : List ByteArray) : ∀ (l : List File) (prev : Option ByteArray), wrongL rec p prev l = none →
    (∀ y, prev = some y → ∀ x ∈ l, lessB y x.name = true) ∧ SortedN l ∧ ∀ x ∈ l, rec x (p ++ [x.name]) = none
  | [], prev, _ => ⟨fun _ _ x hx => (by cases hx), List.Pairwise.nil, fun x hx => (by cases hx)⟩
  | x :: l, prev, h => by
    rw [wrongL] at h
    by_cases hb : badF prev (p ++ [x.name]) x = true
    · rw [if_pos hb] at h
      cases h
    · rw [if_neg hb] at h
      cases hr : rec x (p ++ [x.name]) with
      | some b => rw [hr] at h; cases h
      | none =>
        rw [hr] at h
        obtain ⟨h1, h2, h3⟩ := wrongL_none rec p l (some x.name) h
        have hx := h1 x.name rfl
        have hp : ∀ y, prev = some y → lessB y x.name = true := by
          rintro y rfl
          cases hl : lessB y x.name
          · exact absurd (by simp [badF, prevGe, geB, show Op.bytesLess y.toList x.name.toList = false from hl]) hb
          · rfl
        refine ⟨fun y hy z hz => ?_, List.pairwise_cons.2 ⟨hx, h2⟩, fun z hz => ?_⟩
        · rcases List.mem_cons.1 hz with rfl | hz
          · exact hp y hy
          · exact less_trans (hp y hy) (hx z hz)
        · rcases List.mem_cons.1 hz with rfl | hz
          · exact hr
          · exact h3 z hz
theorem wrongN_sort : ∀ (n : Nat) (f : File) (p : List ByteArray), f.bulk ≤ n → wrongN n f p = none → SortF f
  | 0, f, p, h, _ => by have := bulk_eq f; omega
  | n + 1, f, p, h, hw => by
    obtain ⟨_, h2, h3⟩ := wrongL_none (wrongN n) p f.files none hw
    rw [SortF_eq]
    refine ⟨h2, SortL_mem.2 fun x hx => wrongN_sort n x _ (by have := bulk_child hx; omega) (h3 x hx)⟩
theorem right_sort {f : File} (h : rightT f = true) : SortF f := by
  have h1 : (checkR f).1 = 0 := by simpa [rightT] using h
  unfold checkR at h1
  by_cases hc : f.kind = 1 ∧ f.name.toList.isEmpty = true ∧ f.data.toList.isEmpty = true
  · rw [if_pos hc] at h1
    cases hw : wrongN f.bulk f [] with
    | none => exact wrongN_sort _ _ _ (Nat.le_refl _) hw
    | some b => rw [hw] at h1; simp [checkO] at h1
  · rw [if_neg hc] at h1
    simp at h1
theorem results_ct {P : Program} {fn : Func} {p u : Tmp} {ty : TypeId} (h : fn.results = #[.cell p ty, .tmp u]) (tmps : Array Value) (w : World) (g : Nat) (t : TypeId) (cs : Array Value) (fr : Nat × Nat) (d : TypeDesc)
    (hp : tmps.getD p undef = .pointer (some ⟨g, 0, none⟩)) (hg : w.heap[g]? = some (.cells cs t fr))
    (hu : P.underlying ty = some d) (hd : (match d with | .struct _ | .array _ _ => true | _ => false) = true) (hi : (P.info? ty).map (·.size) = some cs.size) :
    (results fn tmps).run P w = .ok (.tuple #[.agg cs, tmps.getD u undef]) w := by
  rw [results_cell_tmp h tmps P w, hp]
  simp [asAddr, run_loadVar_row w g t ty cs fr d hg hu hd hi, Result.andThen]
end Go.Proofs.YthlcjjhfkldmhaaDoor.G
end
section
namespace Go.Proofs.YthlcjjhfkldmhaaDoor.G
open Go.RowKit Go.Lib Go.Proofs.YthlcjjhfkldmhaaDoorW.PrintWords Go.Proofs.YthlcjjhfkldmhaaDoorW.PrintLast
set_option linter.unusedVariables false

/-- A file's four cells are written in a box. -/
theorem store4_box {W : World} {g : Nat} {a b c d : Value} {t : TypeId} (h : W.heap[g]? = some (.cells #[a, b, c, d] t (0, 0))) (v0 v1 v2 v3 : Value) :
    ((((W.setCell ⟨g, 0, none⟩ v0).setCell ⟨g, 1, none⟩ v1).setCell ⟨g, 2, none⟩ v2).setCell ⟨g, 3, none⟩ v3).heap[g]? = some (.cells #[v0, v1, v2, v3] t (0, 0)) :=
  blk_put (blk_put (blk_put (blk_put h 0 v0 rfl) 1 v1 rfl) 2 v2 rfl) 3 v3 rfl
theorem store4_other (W : World) {g k : Nat} (hk : k ≠ g) (v0 v1 v2 v3 : Value) :
    ((((W.setCell ⟨g, 0, none⟩ v0).setCell ⟨g, 1, none⟩ v1).setCell ⟨g, 2, none⟩ v2).setCell ⟨g, 3, none⟩ v3).heap[k]? = W.heap[k]? := by
  rw [Below.heap_setCell _ _ _ _ hk, Below.heap_setCell _ _ _ _ hk, Below.heap_setCell _ _ _ _ hk, Below.heap_setCell _ _ _ _ hk]
theorem store4_below {B g : Nat} {a W : World} (h : Below B a W) (hg : B ≤ g) (v0 v1 v2 v3 : Value) :
    Below B a ((((W.setCell ⟨g, 0, none⟩ v0).setCell ⟨g, 1, none⟩ v1).setCell ⟨g, 2, none⟩ v2).setCell ⟨g, 3, none⟩ v3) :=
  (((h.setCell (p := ⟨g, 0, none⟩) hg v0).setCell (p := ⟨g, 1, none⟩) hg v1).setCell (p := ⟨g, 2, none⟩) hg v2).setCell (p := ⟨g, 3, none⟩) hg v3
theorem unfr {W : World} {g : Nat} {cs : Array Value} {t : TypeId} (h : W.heap[g]? = some (.cells cs t (0, 0))) (j : Nat) : W.frozen? ⟨g, j, none⟩ = false := by simp [World.frozen?, h]

def nameIs (n : ByteArray) (x : File) : Bool := x.name.toList == n.toList
end Go.Proofs.YthlcjjhfkldmhaaDoor.G
end
