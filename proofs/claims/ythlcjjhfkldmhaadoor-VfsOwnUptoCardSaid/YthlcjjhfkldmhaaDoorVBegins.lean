/- small and begins of the chapter's laws. Printed by wip/tools/gen_vbeg.py. -/
import Derived.Test.YthlcjjhfkldmhaaDoorVFaultP
import Derived.Test.YthlcjjhfkldmhaaDoorVTrace
import Derived.Test.YthlcjjhfkldmhaaDoorVIn
set_option linter.unusedVariables false
set_option linter.unusedSimpArgs false
section
namespace Go.Proofs.YthlcjjhfkldmhaaDoor.G
open Go.RowKit Go.Lib Go.Proofs.YthlcjjhfkldmhaaDoorW.PrintWords Go.Proofs.YthlcjjhfkldmhaaDoorW.PrintLast
set_option linter.unusedVariables false
set_option linter.unusedSimpArgs false

/-- The paths of a step are right. -/
def fitS (x : Step) : Prop := P.rightB x.path = true ∧ (x.kind = 5 → P.rightB x.dest = true)
instance (x : Step) : Decidable (fitS x) := by unfold fitS; infer_instance
theorem right_nil : P.rightB [] = true := by kernel_rfl
theorem fit_req (x : Step) : (P.rightB (reqOf x).p = true ∧ P.rightB (reqOf x).dest = true) ↔ fitS x := by
  unfold fitS reqOf
  simp only
  split
  · rename_i h
    exact ⟨fun g => ⟨g.1, fun _ => g.2⟩, fun g => ⟨g.1, g.2 h⟩⟩
  · rename_i h
    exact ⟨fun g => ⟨g.1, fun e => absurd e h⟩, fun g => ⟨g.1, right_nil⟩⟩
theorem tell_fit {f : FsV} {x : Step} (hx : oneOf x = true) (h : fitS x) : (doV f x).1.trace = f.trace ++ [⟨x.kind, x.path, if x.kind = 5 then x.dest else [], (doV f x).2.2⟩] := by
  obtain ⟨h1, h2⟩ := do_call f x hx
  rw [h1, h2]
  unfold callV
  rw [if_pos ((fit_req x).2 h)]
  simp only [ansOf]
  unfold reqOf
  simp only
  split <;> rfl
theorem tell_unfit {f : FsV} {x : Step} (hx : oneOf x = true) (h : ¬ fitS x) : (doV f x).1 = f ∧ (doV f x).2.2 = 20 := by
  obtain ⟨h1, h2⟩ := do_call f x hx
  rw [h1, h2]
  unfold callV
  rw [if_neg (fun e => h ((fit_req x).1 e))]
  exact ⟨rfl, rfl⟩
/-- A trace's paths are short. -/
def shortT (l : List Call) : Prop := ∀ x ∈ l, x.path.length ≤ 1024 ∧ x.dest.length ≤ 1024
theorem fit_short {x : Step} (h : fitS x) (why : Int) : (⟨x.kind, x.path, if x.kind = 5 then x.dest else [], why⟩ : Call).path.length ≤ 1024 ∧ (⟨x.kind, x.path, if x.kind = 5 then x.dest else [], why⟩ : Call).dest.length ≤ 1024 := by
  have h1 := P.sumP_len x.path
  have h2 := P.rightB_sum h.1
  refine ⟨by simp only; omega, ?_⟩
  simp only
  split
  · rename_i h5
    have h3 := P.sumP_len x.dest
    have h4 := P.rightB_sum (h.2 h5)
    omega
  · exact Nat.zero_le _
theorem do_short {f : FsV} {x : Step} (h : shortT f.trace) : shortT (doV f x).1.trace := by
  by_cases hx : oneOf x = true
  · by_cases hf : fitS x
    · rw [tell_fit hx hf]
      intro y hy
      rcases List.mem_append.1 hy with hy | hy
      · exact h y hy
      · rw [List.mem_singleton.1 hy]
        exact fit_short hf _
    · rw [(tell_unfit hx hf).1]
      exact h
  · have h0 : doV f x = (f, told0 ⟨#[]⟩, 0) := by
      simp only [oneOf, decide_eq_true_iff] at hx
      unfold doV
      rw [if_neg (by omega), if_neg (by omega), if_neg (by omega), if_neg (by omega), if_neg (by omega)]
    rw [h0]
    exact h
theorem trace_in (w : World) (g : Nat) (S : Nat → Prop) (f : FsV) (h : FsIn S w g f) (htl : f.trace.length ≤ 1000000) (hs : shortT f.trace) :
    Calls Tryd.prog 25 #[.pointer (some ⟨g, 0, none⟩)] w fun e w' => ∃ v, e = .returned v ∧ CallK.R 59 w' w.heap.size (fun _ => True) v f.trace ∧ Below w.heap.size w w' := by
  obtain ⟨O, tb, h1, _⟩ := h
  exact trace_api w g O tb f h1 htl fun x hx => ⟨by have := (hs x hx).1; omega, by have := (hs x hx).2; omega⟩
end Go.Proofs.YthlcjjhfkldmhaaDoor.G
end
section
namespace Go.Proofs.YthlcjjhfkldmhaaDoor.G
open Go.RowKit Go.Lib Go.Proofs.YthlcjjhfkldmhaaDoorW.PrintWords Go.Proofs.YthlcjjhfkldmhaaDoorW.PrintLast
set_option linter.unusedVariables false
set_option linter.unusedSimpArgs false

def fileB : File := ⟨⟨#[98]⟩, 2, ⟨#[120]⟩, []⟩
def fileA : File := ⟨⟨#[97]⟩, 1, ⟨#[]⟩, [fileB]⟩
def fileC : File := ⟨⟨#[99]⟩, 3, ⟨#[97]⟩, []⟩
def smallF : File := ⟨⟨#[]⟩, 1, ⟨#[]⟩, [fileA, fileC]⟩
/-- One, two files in a box. -/
theorem C_one {W : World} {g : Nat} {a b c v : Value} {x : File} (h : W.heap[g]? = some (.cells #[a, b, c, v] 25 (0, 0))) (hx : FileK.K W x [a, b, c, v]) : FileK.C W (some ⟨g, 0, none⟩) 1 [x] := by
  refine ⟨rfl, by decide, fun _ => ⟨_, rfl, fun j p hj => ?_⟩⟩
  match j, hj with
  | 0, hj =>
    obtain rfl : x = p := by simpa using hj
    refine ⟨_, rfl, hx, fun i u hu => ?_⟩
    match i, hu with
    | 0, hu | 1, hu | 2, hu | 3, hu => exact (cell_of h rfl).trans hu
theorem C_two {W : World} {g : Nat} {a b c v a' b' c' v' : Value} {x y : File} (h : W.heap[g]? = some (.cells #[a, b, c, v, a', b', c', v'] 25 (0, 0))) (hx : FileK.K W x [a, b, c, v]) (hy : FileK.K W y [a', b', c', v']) : FileK.C W (some ⟨g, 0, none⟩) 2 [x, y] := by
  refine ⟨rfl, by decide, fun _ => ⟨_, rfl, fun j p hj => ?_⟩⟩
  match j, hj with
  | 0, hj =>
    obtain rfl : x = p := by simpa using hj
    refine ⟨_, rfl, hx, fun i u hu => ?_⟩
    match i, hu with
    | 0, hu | 1, hu | 2, hu | 3, hu => exact (cell_of h rfl).trans hu
  | 1, hj =>
    obtain rfl : y = p := by simpa using hj
    refine ⟨_, rfl, hy, fun i u hu => ?_⟩
    match i, hu with
    | 0, hu | 1, hu | 2, hu | 3, hu => exact (cell_of h rfl).trans hu
set_option maxHeartbeats 4000000 in
set_option maxRecDepth 100000 in
theorem small_calls (w : World) :
    Calls Tryd.prog 36 #[] w fun e w' => ∃ A c, e = .returned (fileV smallF A c) ∧ smallF.files.length ≤ c ∧ FileK.C w' A smallF.files.length smallF.files ∧ Below w.heap.size w w' := by
  have h3 := boxes3 w #[.string ⟨#[]⟩, .int .u8 1, .string ⟨#[]⟩, .slice (some ⟨w.heap.size + 2, 0, none⟩) 2 2] #[.string ⟨#[98]⟩, .int .u8 2, .string ⟨#[120]⟩, .slice none 0 0] #[.string ⟨#[97]⟩, .int .u8 1, .string ⟨#[]⟩, .slice (some ⟨w.heap.size + 1, 0, none⟩) 1 1, .string ⟨#[99]⟩, .int .u8 3, .string ⟨#[97]⟩, .slice none 0 0] 25 25 25
  have hb0 := (((Below.refl w.heap.size w).alloc (Nat.le_refl _) (.cells #[.string ⟨#[]⟩, .int .u8 1, .string ⟨#[]⟩, .slice (some ⟨w.heap.size + 2, 0, none⟩) 2 2] 25)).alloc (by simp) (.cells #[.string ⟨#[98]⟩, .int .u8 2, .string ⟨#[120]⟩, .slice none 0 0] 25)).alloc (by simp; omega) (.cells #[.string ⟨#[97]⟩, .int .u8 1, .string ⟨#[]⟩, .slice (some ⟨w.heap.size + 1, 0, none⟩) 1 1, .string ⟨#[99]⟩, .int .u8 3, .string ⟨#[97]⟩, .slice none 0 0] 25)
  have H0 := Lib.hid h3.1
  have H1 := Lib.hid h3.2.1
  have H2 := Lib.hid h3.2.2
  have HB0 := Lib.hid hb0
  clear h3 hb0
  go_enter Tryd.func36, Tryd.ntmps36
  go_wp2_with fail
  refine bodyPost_ret (results_c1 rfl _ _ w.heap.size 25 #[.string ⟨#[]⟩, .int .u8 1, .string ⟨#[]⟩, .slice (some ⟨w.heap.size + 2, 0, none⟩) 2 2] (0, 0) _ rfl H0.out Tryd.underlying25 rfl (by kernel_rfl)) rfl ?_
  exact ⟨some ⟨w.heap.size + 2, 0, none⟩, 2, rfl, Nat.le_refl _, C_two H2.out (file_mk _ fileA (c := 1) (Nat.le_refl _) (C_one H1.out (file_mk _ fileB (Nat.le_refl _) (Kd.C_nil _ _)))) (file_mk _ fileC (Nat.le_refl _) (Kd.C_nil _ _)), HB0.out⟩
def pCB : List ByteArray := [⟨#[99]⟩, ⟨#[98]⟩]
def pAB : List ByteArray := [⟨#[97]⟩, ⟨#[98]⟩]
def bg0 : FsV := ⟨smallF, [], []⟩
def bg1 : FsV × Told × Int := callV bg0 2 ⟨pCB, [], ⟨#[]⟩⟩
def bg2 : FsV × Told × Int := callV bg1.1 4 ⟨pCB, [], ⟨#[121]⟩⟩
def bg3 : FsV × Told × Int := callV bg2.1 2 ⟨pAB, [], ⟨#[]⟩⟩
theorem bulk_B : fileB.bulk = 6 := (bulk_eq _).trans rfl
theorem bulk_A : fileA.bulk = 11 := (bulk_eq _).trans (by show 4 + 1 + 0 + (fileB.bulk + 0) = 11; rw [bulk_B])
theorem bulk_Cc : fileC.bulk = 6 := (bulk_eq _).trans rfl
theorem bulk_S : smallF.bulk = 21 := (bulk_eq _).trans (by show 4 + 0 + 0 + (fileA.bulk + (fileC.bulk + 0)) = 21; rw [bulk_A, bulk_Cc])
def fileB2 : File := ⟨⟨#[98]⟩, 2, ⟨#[120, 121]⟩, []⟩
def fileA2 : File := ⟨⟨#[97]⟩, 1, ⟨#[]⟩, [fileB2]⟩
def smallF2 : File := ⟨⟨#[]⟩, 1, ⟨#[]⟩, [fileA2, fileC]⟩
theorem bulk_B2 : fileB2.bulk = 7 := (bulk_eq _).trans rfl
theorem bulk_A2 : fileA2.bulk = 12 := (bulk_eq _).trans (by show 4 + 1 + 0 + (fileB2.bulk + 0) = 12; rw [bulk_B2])
theorem bulk_S2 : smallF2.bulk = 22 := (bulk_eq _).trans (by show 4 + 0 + 0 + (fileA2.bulk + (fileC.bulk + 0)) = 22; rw [bulk_A2, bulk_Cc])
theorem right_by {f : File} {n : Nat} (h : f.bulk = n) (h2 : (if f.kind = 1 ∧ f.name.toList.isEmpty = true ∧ f.data.toList.isEmpty = true then checkO (wrongN n f []) else ((30 : Int), [])).1 = 0) : rightT f = true := by
  unfold rightT checkR
  rw [h, h2]
  rfl
theorem bg_right : rightT smallF = true := right_by bulk_S (by kernel_rfl)
theorem bg_right2 : rightT smallF2 = true := right_by bulk_S2 (by kernel_rfl)
theorem bg_put : putA smallF pAB (textF ⟨#[120, 121]⟩) = (smallF2, 0) := by
  show putR smallF [⟨#[97]⟩] ⟨#[98]⟩ _ = _
  unfold putR
  rw [if_pos bg_right, show goP smallF [⟨#[97]⟩] = (0, some fileA) by kernel_rfl]
  simp only
  rw [if_pos (by kernel_rfl), show putP smallF [⟨#[97]⟩] { fileA with files := insF fileA.files (nameF (textF ⟨#[120, 121]⟩) ⟨#[98]⟩) } = smallF2 by kernel_rfl, if_pos bg_right2]
theorem bg1_eq : bg1 = (⟨smallF, [⟨2, pCB, [], 0⟩], []⟩, told0 ⟨#[120]⟩, 0) := by kernel_rfl
theorem bg2_eq : bg2 = (⟨smallF2, [⟨2, pCB, [], 0⟩, ⟨4, pCB, [], 0⟩], []⟩, told0 ⟨#[121]⟩, 0) := by
  unfold bg2
  rw [bg1_eq]
  have h1 : opR 4 smallF ⟨pCB, [], ⟨#[121]⟩⟩ = (smallF2, told0 ⟨#[121]⟩, 0) := by
    show appendR smallF ⟨pCB, [], ⟨#[121]⟩⟩ = _
    unfold appendR
    simp only
    rw [show walkR smallF pCB true = (pAB, fileB, true, 0) by kernel_rfl]
    simp only
    rw [if_pos trivial, if_pos trivial, if_neg (by decide)]
    unfold putV
    rw [show fileB.data ++ ⟨#[121]⟩ = ⟨#[120, 121]⟩ by kernel_rfl, bg_put]
    rfl
  unfold callV
  rw [if_pos ⟨by kernel_rfl, by kernel_rfl⟩, if_neg (by simp)]
  simp only
  rw [h1]
  rfl
theorem bg3_eq : bg3 = (⟨smallF2, [⟨2, pCB, [], 0⟩, ⟨4, pCB, [], 0⟩, ⟨2, pAB, [], 0⟩], []⟩, told0 ⟨#[120, 121]⟩, 0) := by
  unfold bg3
  rw [bg2_eq]
  kernel_rfl
theorem call1_eq : callV ⟨smallF, [], []⟩ 2 ⟨pCB, [], ⟨#[]⟩⟩ = (⟨smallF, [⟨2, pCB, [], 0⟩], []⟩, told0 ⟨#[120]⟩, 0) := bg1_eq
theorem call2_eq : callV ⟨smallF, [⟨2, pCB, [], 0⟩], []⟩ 4 ⟨pCB, [], ⟨#[121]⟩⟩ = (⟨smallF2, [⟨2, pCB, [], 0⟩, ⟨4, pCB, [], 0⟩], []⟩, told0 ⟨#[121]⟩, 0) := by
  have h := bg2_eq
  unfold bg2 at h
  rwa [bg1_eq] at h
theorem call3_eq : callV ⟨smallF2, [⟨2, pCB, [], 0⟩, ⟨4, pCB, [], 0⟩], []⟩ 2 ⟨pAB, [], ⟨#[]⟩⟩ = (⟨smallF2, [⟨2, pCB, [], 0⟩, ⟨4, pCB, [], 0⟩, ⟨2, pAB, [], 0⟩], []⟩, told0 ⟨#[120, 121]⟩, 0) := by
  have h := bg3_eq
  unfold bg3 at h
  rwa [bg2_eq] at h
set_option maxHeartbeats 4000000 in
set_option maxRecDepth 100000 in
theorem begins_calls (w : World) :
    Calls Tryd.prog 13 #[] w fun e w' => e = .returned (.bool true) ∧ Below w.heap.size w w' := by
  go_enter Tryd.func13, Tryd.ntmps13
  go_wp2_with fail
  refine (small_calls w).mono ?_
  rintro e w1 ⟨A, c, rfl, hc, hC, hq1⟩
  unfold fileV
  have hs1 := hq1.size
  have HC := Lib.hid hC
  clear hC
  go_wp2_with fail
  refine (show Calls Tryd.prog 19 #[.agg #[.string smallF.name, .int .u8 smallF.kind, .string smallF.data, .slice A smallF.files.length c], .slice none 0 0] w1 _ from new_in smallF A c none 0 [] w1 HC.out hc (by rw [bulk_S]; omega) (Kd.C_nil _ _) (Nat.le_refl _) (by show 0 ≤ _; omega)).mono ?_
  rintro e w2 (⟨h, _, _⟩ | ⟨-, g, rfl, hfs, hq2⟩)
  · rw [bg_right] at h
    cases h
  have hs2 := hq2.size
  have hb2 := hq1.trans (hq2.mono hs1)
  have HF := Lib.hid (hfs.mono (T := fun k => w1.heap.size ≤ k ∧ k < w2.heap.size) fun _ h => h)
  have HB := Lib.hid hb2
  clear hfs hq2 hb2 HC
  have hax := below_alloc (Below.refl w2.heap.size w2) (.cells #[.string ⟨#[99]⟩, .string ⟨#[98]⟩] 9)
  have HX := Lib.hid (F_of_box (ok := fun k => ¬ (fun k => w1.heap.size ≤ k ∧ k < w2.heap.size) k) (l := pCB) (blk_new w2 (.cells #[.string ⟨#[99]⟩, .string ⟨#[98]⟩] 9)) rfl (by decide) (fun h => by have := h.2; omega))
  have HFX := Lib.hid (HF.out.below hax)
  have hsx := hax.size
  have HBX := Lib.hid (HB.out.trans (hax.mono HB.out.size))
  clear hax
  go_wp2_with fail
  generalize (w2.alloc (.cells #[.string ⟨#[99]⟩, .string ⟨#[98]⟩] 9)) = X1 at *
  have hcl := read_in X1 g (fun k => w1.heap.size ≤ k ∧ k < w2.heap.size) ⟨smallF, [], []⟩ HFX.out (by show smallF.bulk ≤ _; rw [bulk_S]; omega) (by show 0 ≤ _; omega) _ 2 pCB HX.out (by decide) (by show _ ≤ _; decide)
  rw [call1_eq] at hcl
  refine hcl.mono ?_
  clear hcl HX HF HB
  rintro e v1 ⟨rfl, hfs, ho⟩
  have hso := ho.size
  have HF := Lib.hid hfs
  have HB := Lib.hid (HBX.out.trans (ho.below (B := w.heap.size) (by omega) (fun k hk h => by have := h.1; omega)))
  clear hfs ho HFX HBX
  simp only [told0]
  have hax := below_alloc (Below.refl v1.heap.size v1) (.cells #[.string ⟨#[99]⟩, .string ⟨#[98]⟩] 9)
  have HX := Lib.hid (F_of_box (ok := fun k => ¬ (Grown (fun k => w1.heap.size ≤ k ∧ k < w2.heap.size) X1 v1) k) (l := pCB) (blk_new v1 (.cells #[.string ⟨#[99]⟩, .string ⟨#[98]⟩] 9)) rfl (by decide) (fun h => by rcases h with h | h; (· have := h.2; omega); (· have := h.2; omega)))
  have HFX := Lib.hid (HF.out.below hax)
  have hsx := hax.size
  have HBX := Lib.hid (HB.out.trans (hax.mono HB.out.size))
  clear hax
  go_wp2_with fail
  generalize (v1.alloc (.cells #[.string ⟨#[99]⟩, .string ⟨#[98]⟩] 9)) = X2 at *
  have hcl := append_in X2 g (Grown (fun k => w1.heap.size ≤ k ∧ k < w2.heap.size) X1 v1) ⟨smallF, [⟨2, pCB, [], 0⟩], []⟩ HFX.out (by show smallF.bulk ≤ _; rw [bulk_S]; omega) (by show 1 ≤ _; omega) _ 2 pCB HX.out (by decide) (by show _ ≤ _; decide) ⟨#[121]⟩ (by show 1 ≤ _; omega)
  rw [call2_eq] at hcl
  refine hcl.mono ?_
  clear hcl HX HF HB
  rintro e v2 ⟨rfl, hfs, ho⟩
  have hso := ho.size
  have HF := Lib.hid hfs
  have HB := Lib.hid (HBX.out.trans (ho.below (B := w.heap.size) (by omega) (fun k hk h => by rcases h with h | h; (· have := h.1; omega); (· have := h.1; omega))))
  clear hfs ho HFX HBX
  simp only [told0]
  have hax := below_alloc (Below.refl v2.heap.size v2) (.cells #[.string ⟨#[97]⟩, .string ⟨#[98]⟩] 9)
  have HX := Lib.hid (F_of_box (ok := fun k => ¬ (Grown (Grown (fun k => w1.heap.size ≤ k ∧ k < w2.heap.size) X1 v1) X2 v2) k) (l := pAB) (blk_new v2 (.cells #[.string ⟨#[97]⟩, .string ⟨#[98]⟩] 9)) rfl (by decide) (fun h => by rcases h with (h | h) | h; (· have := h.2; omega); (· have := h.2; omega); (· have := h.2; omega)))
  have HFX := Lib.hid (HF.out.below hax)
  have hsx := hax.size
  have HBX := Lib.hid (HB.out.trans (hax.mono HB.out.size))
  clear hax
  go_wp2_with fail
  generalize (v2.alloc (.cells #[.string ⟨#[97]⟩, .string ⟨#[98]⟩] 9)) = X3 at *
  have hcl := read_in X3 g (Grown (Grown (fun k => w1.heap.size ≤ k ∧ k < w2.heap.size) X1 v1) X2 v2) ⟨smallF2, [⟨2, pCB, [], 0⟩, ⟨4, pCB, [], 0⟩], []⟩ HFX.out (by show smallF2.bulk ≤ _; rw [bulk_S2]; omega) (by show 2 ≤ _; omega) _ 2 pAB HX.out (by decide) (by show _ ≤ _; decide)
  rw [call3_eq] at hcl
  refine hcl.mono ?_
  clear hcl HX HF HB
  rintro e v3 ⟨rfl, hfs, ho⟩
  have hso := ho.size
  have HF := Lib.hid hfs
  have HB := Lib.hid (HBX.out.trans (ho.below (B := w.heap.size) (by omega) (fun k hk h => by rcases h with (h | h) | h; (· have := h.1; omega); (· have := h.1; omega); (· have := h.1; omega))))
  clear hfs ho HFX HBX
  simp only [told0]
  go_wp2_with fail
  refine (calls_in v3 g _ _ HF.out).mono ?_
  rintro e w9 ⟨rfl, rfl⟩
  go_wp2_with fail
  go_ret
  exact ⟨rfl, HB.out⟩
end Go.Proofs.YthlcjjhfkldmhaaDoor.G
end
