/- paddockref03.with. -/
import Derived.Test.YtdnhjnlhmfajnaaDoorTRFind
namespace Go.Proofs.YtdnhjnlhmfajnaaDoor.G
open Go.RowKit Go.Lib Go.Proofs.YtdnhjnlhmfajnaaDoorW.PrintWords Go.Proofs.YtdnhjnlhmfajnaaDoorW.PrintLast
set_option linter.unusedVariables false
set_option linter.unusedSimpArgs false

def insB (gone : Bool) (n : ByteArray) (last put : Bool) (x : File) : Bool := last && !put && !gone && !(Op.bytesLess x.name.toList n.toList)
def chO (last : Bool) (n : ByteArray) (rec : File → File) (x : File) : List File := if nameIs n x = true then (if last = true then [] else [rec x]) else [x]
def withL (gone : Bool) (f : File) (n : ByteArray) (last : Bool) (rec : File → File) : List File → Bool → List File
  | [], put => if (last && !put && !gone) = true then [f] else []
  | x :: l, put => (if insB gone n last put x = true then [f] else []) ++ (chO last n rec x ++ withL gone f n last rec l (put || insB gone n last put x))
/-- A folder with a file at a path in it (gone: without). -/
def withR (gone : Bool) (f : File) : List ByteArray → File → File
  | [], t => t
  | n :: p, t => ⟨t.name, t.kind, t.data, withL gone f n p.isEmpty (withR gone f p) t.files false⟩
theorem withR_keep (gone : Bool) (f : File) : ∀ (p : List ByteArray) (t : File), (withR gone f p t).name = t.name ∧ (withR gone f p t).kind = t.kind ∧ (withR gone f p t).data = t.data
  | [], t => ⟨rfl, rfl, rfl⟩
  | n :: p, t => ⟨rfl, rfl, rfl⟩
/-- Those that have come up, as bits. -/
def bw (n m : Nat) : Array Bool := ((List.range n).map (fun j => m.testBit j)).toArray

set_option maxHeartbeats 16000000 in
set_option maxRecDepth 100000 in
theorem rwith_calls (gone : Bool) (f : File) (Af : Option Addr) (cf : Nat) : ∀ (p : List ByteArray) (t : File) (A : Option Addr) (c : Nat) (Ap : Option Addr) (cp : Nat) (okf : Nat → Prop) (w : World), p ≠ [] → FileK.C w A t.files.length t.files → t.files.length ≤ c → t.bulk ≤ 549755813888 → Kd.C Kd.string w Ap p.length p → p.length ≤ cp → p.length ≤ 1099511627776 →
    FileK.R 25 w 0 okf (.slice Af f.files.length cf) f.files → (∀ k, okf k → k < w.heap.size) →
    Calls Tryd.prog 52 #[fileV t A c, .slice Ap p.length cp, fileV f Af cf, .bool gone] w fun e w' => ∃ v, e = .returned (.agg #[.string t.name, .int .u8 t.kind, .string t.data, v]) ∧ FileK.R 25 w' 0 (fun k => okf k ∨ w.heap.size ≤ k) v (withR gone f p t).files ∧ Below w.heap.size w w' := by
  intro p
  induction p with
  | nil => intro t A c Ap cp okf w h; exact absurd rfl h
  | cons n p2 ih =>
  intro t A c Ap cp okf w _ hr hc hbk hp hcp hpl hf hokf
  have HI := Lib.hid ih
  have HR := Lib.hid hr
  have HP := Lib.hid hp
  have HF := Lib.hid hf
  have HOKF := Lib.hid hokf
  have hbe := bulk_eq t
  have hbl := bulkL_len t.files
  have hal : t.files.length ≤ 137438953472 := by omega
  have HCB := Lib.hid (fun x (h : x ∈ t.files) => bulk_child (f := t) h)
  have HFR : Hid (∀ W, Below w.heap.size w W → FileK.R 25 W 0 okf (.slice Af f.files.length cf) f.files) := Lib.hid fun W h => Kd.R_below HF.out h
  obtain ⟨pad, rfl, hp0⟩ := Kd.at_string hp (0 : Int) (Int.le_refl 0) (by simp only [List.length_cons]; omega)
  have hp0 : w.cell? pad = some (.string n) := by simpa [Addr.add, rdOf] using hp0
  have HPN : Hid (∀ W, Below w.heap.size w W → W.cell? pad = some (.string n)) := Lib.hid fun W h => (h.cell (World.block_lt_of_cell? w _ hp0)).trans hp0
  have HPT : Hid (p2 ≠ [] → ∀ W, Below w.heap.size w W → Kd.C Kd.string W (some (pad.add 1)) p2.length p2) := Lib.hid fun h0 W h => by
    have h2 := List.length_pos_iff.2 h0
    have h1 := Kd.C_drop (c := cp) (Kd.C_below HP.out h) (m := 1) (by simp only [List.length_cons]; omega) hcp
    simp only [List.length_cons] at hcp
    rw [if_neg (by omega)] at h1
    exact h1
  obtain ⟨Z, hZ⟩ : ∃ Z, withL gone f n p2.isEmpty (withR gone f p2) t.files false = Z := ⟨_, rfl⟩
  have HWZ : Hid ((withR gone f (n :: p2) t).files = Z) := Lib.hid (by rw [← hZ]; rfl)
  rw [HWZ.out]
  have HZZ := Lib.hid hZ
  obtain ⟨lp, hlp⟩ : ∃ lp, (n :: p2).length = lp := ⟨_, rfl⟩
  have hlp2 : lp = p2.length + 1 := by rw [← hlp]; rfl
  rw [hlp] at hcp hpl ⊢
  have HLP := Lib.hid hlp2
  clear hr hp hf hokf ih hbe hbl hZ hp0 HP hlp
  have g0 : (0 : Int) < (lp : Int) := by omega
  clear hlp2
  have e1 : ((w.alloc (.cells #[.string t.name, .int .u8 t.kind, .string t.data, .slice A t.files.length c] 25)).alloc (.cells #[.string f.name, .int .u8 f.kind, .string f.data, .slice Af f.files.length cf] 25)).heap[w.heap.size + 1]? = some (.cells #[.string f.name, .int .u8 f.kind, .string f.data, .slice Af f.files.length cf] 25 (0, 0)) := (two_boxes w _ _ _ _).2
  have e2 := three_boxes w #[.string t.name, .int .u8 t.kind, .string t.data, .slice A t.files.length c] #[.string f.name, .int .u8 f.kind, .string f.data, .slice Af f.files.length cf] #[.string ⟨#[]⟩, .int .u8 0, .string ⟨#[]⟩, .slice none 0 0] 25 25 25
  obtain ⟨W3, hW3⟩ : ∃ W3, ((w.alloc (.cells #[.string t.name, .int .u8 t.kind, .string t.data, .slice A t.files.length c] 25)).alloc (.cells #[.string f.name, .int .u8 f.kind, .string f.data, .slice Af f.files.length cf] 25)).alloc (.cells #[.string ⟨#[]⟩, .int .u8 0, .string ⟨#[]⟩, .slice none 0 0] 25) = W3 := ⟨_, rfl⟩
  have hz3 : W3.heap.size = w.heap.size + 3 := by rw [← hW3]; simp
  have hb3 : Below w.heap.size w W3 := by
    rw [← hW3]
    exact ((below_alloc (Below.refl w.heap.size w) _).alloc (by simp) _).alloc (by simp; omega) _
  have k1 : W3.heap[w.heap.size + 1]? = some (.cells #[.string f.name, .int .u8 f.kind, .string f.data, .slice Af f.files.length cf] 25 (0, 0)) := by
    rw [← hW3]
    exact (Below.heap_alloc _ _ _ (by simp)).trans e1
  have k2 : W3.heap[w.heap.size + 2]? = some (.cells #[.string ⟨#[]⟩, .int .u8 0, .string ⟨#[]⟩, .slice none 0 0] 25 (0, 0)) := by rw [← hW3]; exact e2
  have hb4 := below_alloc (Below.refl W3.heap.size W3) (.cells #[.string t.name, .int .u8 t.kind, .string t.data, .slice none 0 0] 25)
  have k3 := blk_new W3 (.cells #[.string t.name, .int .u8 t.kind, .string t.data, .slice none 0 0] 25)
  rw [hz3] at k3
  have HW4 : Hid (Below w.heap.size w (W3.alloc (.cells #[.string t.name, .int .u8 t.kind, .string t.data, .slice none 0 0] 25))) := Lib.hid (bstep hb3 hb3.size hb4)
  have K1 := Lib.hid ((hb4.block (w.heap.size + 1) (by omega)).trans k1)
  have K2 := Lib.hid ((hb4.block (w.heap.size + 2) (by omega)).trans k2)
  have K3 := Lib.hid k3
  have k0 : W3.heap[w.heap.size]? = some (.cells #[.string t.name, .int .u8 t.kind, .string t.data, .slice A t.files.length c] 25 (0, 0)) := by
    rw [← hW3]
    exact (Below.heap_alloc _ _ _ (by simp; omega)).trans (two_boxes w _ _ _ _).1
  have k4 := (hb4.block w.heap.size (by omega)).trans k0
  have y0 := cell_of (j := 0) k0 rfl
  have y1 := cell_of (j := 1) k0 rfl
  have y2 := cell_of (j := 2) k0 rfl
  have y3 := cell_of (j := 3) k4 rfl
  clear e1 e2 k1 k2 k3 k0 k4 hb4
  go_enter Tryd.func52, Tryd.ntmps52
  unfold fileV
  go_wp2_with fail
  clear y0 y1 y2 y3
  generalize W3.alloc (.cells #[.string t.name, .int .u8 t.kind, .string t.data, .slice none 0 0] 25) = W4 at *
  go_loopw [10, 23] (fun vp vi wr => ∃ (k : Nat) (put : Bool) (v : Value) (out : List File), k ≤ t.files.length ∧ vp = .bool put ∧ vi = .int .i64 k ∧ w.heap.size = w.heap.size ∧ Below w.heap.size w wr ∧ Hid (wr.heap[w.heap.size + 1]? = some (.cells #[.string f.name, .int .u8 f.kind, .string f.data, .slice Af f.files.length cf] 25 (0, 0))) ∧ Hid (wr.heap[w.heap.size + 2]? = some (.cells #[.string ⟨#[]⟩, .int .u8 0, .string ⟨#[]⟩, .slice none 0 0] 25 (0, 0))) ∧ Hid (wr.heap[w.heap.size + 3]? = some (.cells #[.string t.name, .int .u8 t.kind, .string t.data, v] 25 (0, 0))) ∧ Hid (FileK.R 25 wr 0 (fun j => okf j ∨ w.heap.size + 4 ≤ j) v out) ∧ Hid (∀ j, v.ownBlock = some j → w.heap.size + 4 ≤ j) ∧ out.length ≤ 2 * k ∧ Hid (Z = out ++ withL gone f n p2.isEmpty (withR gone f p2) (t.files.drop k) put)) (fun _ vi _ => t.files.length - (RowKit.intOf vi).toNat)
  case atStart => exact ⟨0, false, .slice none 0 0, [], by omega, rfl, rfl, rfl, HW4.out, K1, K2, K3, Lib.hid (Kd.R_nil _ _ _ _ _), Lib.hid (fun j h => by simp [Value.ownBlock] at h), by simp, Lib.hid HZZ.out.symm⟩
  case round =>
    clear HW4 K1 K2 K3 HZZ hW3 hz3 hb3
    obtain ⟨k, put, v, out, hk, rfl, rfl, _, hb, HN1, HN2, HN3, HV, HVO, hout, HZ0⟩ := hrel
    by_cases hlt : k < t.files.length
    · obtain ⟨aad, A', c', rfl, p1, p2', p3, p4, hc', hC'⟩ := file_at HR.out k hlt
      have mv : ∀ {p : Addr} {v : Value}, w.cell? p = some v → wr.cell? p = some v := fun h => (hb.cell (World.block_lt_of_cell? w _ h)).trans h
      have p1' := mv p1
      have p2'' := mv p2'
      have p3' := mv p3
      have p4' := mv p4
      have hxb := HCB.out _ (List.getElem_mem hlt)
      have hdr := List.drop_eq_getElem_cons hlt
      have hz0 := HZ0.out
      rw [hdr, withL] at hz0
      have HZ1 := Lib.hid hz0
      have HXC := Lib.hid hC'
      clear p1 p2' p3 p4 mv hC' HZ0 hz0 hdr
      generalize t.files[k] = x at *
      have hxb2 : x.bulk ≤ 549755813888 := by omega
      have g1 : (k : Int) < (t.files.length : Int) := by omega
      have hbx1 := below_alloc (Below.refl wr.heap.size wr) (.cells #[.string x.name, .int .u8 x.kind, .string x.data, .slice A' x.files.length c'] 25)
      have hb1 := bstep hb hb.size hbx1
      have HXB1 := Lib.hid (blk_new wr (.cells #[.string x.name, .int .u8 x.kind, .string x.data, .slice A' x.files.length c'] 25))
      have HN11 := Lib.hid ((hbx1.block _ (blk_lt HN1.out)).trans HN1.out)
      have HN21 := Lib.hid ((hbx1.block _ (blk_lt HN2.out)).trans HN2.out)
      have HN31 := Lib.hid ((hbx1.block _ (blk_lt HN3.out)).trans HN3.out)
      have HV1 := Lib.hid (Kd.R_below HV.out hbx1)
      have HBV : Hid (∀ j, v.ownBlock = some j → j ≠ wr.heap.size) := Lib.hid fun j hj e => by
        have := Kd.R_lt HV.out j hj
        omega
      have hbx4 : w.heap.size + 4 ≤ wr.heap.size := by have := blk_lt HN3.out; omega
      have HCPY : Hid (∀ W, Below w.heap.size w W → ∀ V, Below W.heap.size W V → Calls Tryd.prog 12 #[.agg #[.string x.name, .int .u8 x.kind, .string x.data, .slice A' x.files.length c']] V fun e w' => ∃ v, e = .returned (.agg #[.string x.name, .int .u8 x.kind, .string x.data, v]) ∧ FileK.R 25 w' 0 (fun j => okf j ∨ W.heap.size ≤ j) v x.files ∧ Below W.heap.size W w') := Lib.hid fun W h V hV =>
        (show Calls Tryd.prog 12 #[fileV x A' c'] V _ from rcopy_file _ x A' c' V (Nat.le_refl _) (by omega) (Kd.C_below HXC.out (bstep h h.size hV)) hc').mono (by
          rintro e w' ⟨v, rfl, hR, hb⟩
          exact ⟨v, rfl, Kd.R_lower (Kd.R_mono (Kd.R_bound hR) fun j hj => .inr (Nat.le_trans hV.size hj.2.1)) (Nat.zero_le _), bstep hV hV.size hb⟩)
      have HWTH : Hid (p2 ≠ [] → ∀ W, Below w.heap.size w W → ∀ V, Below W.heap.size W V → Calls Tryd.prog 52 #[.agg #[.string x.name, .int .u8 x.kind, .string x.data, .slice A' x.files.length c'], .slice (some (pad.add 1)) p2.length (cp - 1), .agg #[.string f.name, .int .u8 f.kind, .string f.data, .slice Af f.files.length cf], .bool gone] V fun e w' => ∃ v, e = .returned (.agg #[.string x.name, .int .u8 x.kind, .string x.data, v]) ∧ FileK.R 25 w' 0 (fun j => okf j ∨ W.heap.size ≤ j) v (withR gone f p2 x).files ∧ Below W.heap.size W w') := Lib.hid fun h0 W h V hV =>
        (show Calls Tryd.prog 52 #[fileV x A' c', .slice (some (pad.add 1)) p2.length (cp - 1), fileV f Af cf, .bool gone] V _ from HI.out x A' c' _ _ okf V h0 (Kd.C_below HXC.out (bstep h h.size hV)) hc' hxb2 (HPT.out h0 V (bstep h h.size hV)) (by have := HLP.out; omega) (by have := HLP.out; omega) (HFR.out V (bstep h h.size hV)) (fun j hj => by have := HOKF.out j hj; have := (bstep h h.size hV).size; omega)).mono (by
          rintro e w' ⟨v, rfl, hR, hb⟩
          exact ⟨v, rfl, Kd.R_mono hR fun j hj => hj.imp id fun h => Nat.le_trans hV.size h, bstep hV hV.size hb⟩)
      have HCH0 : Hid (nameIs n x = false → chO p2.isEmpty n (withR gone f p2) x = [x]) := Lib.hid fun h => by unfold chO; rw [if_neg (by rw [h]; simp)]
      go_wp2_with fail
      clear p1' p2'' p3' p4' HN1 HN2 HN3 HV HXC
      generalize hbxe : wr.heap.size = bx at *
      generalize wr.alloc (.cells #[.string x.name, .int .u8 x.kind, .string x.data, .slice A' x.files.length c'] 25) = W1 at *
      clear hbx1 hbxe hb
      have x0 : W1.cell? ⟨bx, 0, none⟩ = some (.string x.name) := cell_of HXB1.out rfl
      have hpn := HPN.out W1 hb1
      by_cases hp2 : p2 = []
      · have HCH1 : Hid (nameIs n x = true → chO p2.isEmpty n (withR gone f p2) x = []) := Lib.hid fun h => by unfold chO; rw [if_pos h, hp2]; rfl
        have l1 : lp = 1 := by rw [HLP.out, hp2]; rfl
        have HLS : Hid (p2.isEmpty = true) := Lib.hid (by rw [hp2]; rfl)
        subst l1
        clear HWTH HI
        cases put
        · cases gone
          · cases hge : Op.bytesLess x.name.toList n.toList
            · have HZ : Hid (Z = (out ++ [f]) ++ (chO p2.isEmpty n (withR false f p2) x ++ withL false f n p2.isEmpty (withR false f p2) (t.files.drop (k + 1)) true)) := Lib.hid (by
                have h : insB false n p2.isEmpty false x = true := by unfold insB; rw [HLS.out, hge]; rfl
                have := HZ1.out
                rw [h] at this
                simpa using this)
              clear HZ1 HPT
              go_wp2_with fail
              go_quiet (fail)
              have hb9 := bdrewN (Below.refl W1.heap.size W1) nq
              have hbi := bstep hb1 hb1.size hb9
              have HN1i := Lib.hid ((hb9.block _ (blk_lt HN11.out)).trans HN11.out)
              have HN2i := Lib.hid ((hb9.block _ (blk_lt HN21.out)).trans HN21.out)
              have HN3i := Lib.hid ((hb9.block _ (blk_lt HN31.out)).trans HN31.out)
              have HXBi := Lib.hid ((hb9.block _ (blk_lt HXB1.out)).trans HXB1.out)
              have HVi := Lib.hid (Kd.R_below HV1.out hb9)
              clear HN11 HN21 HN31 HXB1 HV1 hb9 x0 hpn
              generalize W1.drewN nq = Wi at *
              have hz1 := blk_lt HN1i.out
              have hz2 := blk_lt HN2i.out
              have hz3 := blk_lt HN3i.out
              have hzx := blk_lt HXBi.out
              have o3 : Wi.cell? ⟨w.heap.size + 2 + 1, 3, none⟩ = some v := cell_of HN3i.out rfl
              have f0 : Wi.cell? ⟨w.heap.size + 1, 0, none⟩ = some (.string f.name) := cell_of HN1i.out rfl
              have f1 : Wi.cell? ⟨w.heap.size + 1, 1, none⟩ = some (.int .u8 f.kind) := cell_of HN1i.out rfl
              have f2 : Wi.cell? ⟨w.heap.size + 1, 2, none⟩ = some (.string f.data) := cell_of HN1i.out rfl
              have f3 : Wi.cell? ⟨w.heap.size + 1, 3, none⟩ = some (.slice Af f.files.length cf) := cell_of HN1i.out rfl
              go_wp2_with (at_builtin; refine Kd.R_append FileK (w0 := Wi) 0 rfl (.tmp 47) (.tmp 49) 23 25 (.agg #[(.string ⟨#[]⟩), (.int .u8 0), (.string ⟨#[]⟩), (.slice none 0 0)]) 64 rfl Tryd.underlying23 info_file rfl (by decide) (by omega) v out f [.string f.name, .int .u8 f.kind, .string f.data, .slice Af f.files.length cf] (fun j => okf j ∨ w.heap.size + 4 ≤ j) okf rfl rfl ?aP ?aK ?aF ?aO ?aB ?aS ?aL ?_; (case aP => exact file_mkM _ _ _ f (HFR.out Wi hbi)); (case aK => exact fun j hj => ⟨.inl hj, fun e => by have h1 := HVO.out j e.symm; have := HOKF.out j hj; omega⟩); (case aF => exact fun j hj => .inr (by omega)); (case aO => exact HVi.out); (case aB => exact Below.refl _ _); (case aS => exact Nat.zero_le _); (case aL => omega); intro v2 w2 ho2 hb2 hg2 hat2; have HVO2 : Hid (∀ j, v2.ownBlock = some j → w.heap.size + 4 ≤ j) := Lib.hid (fun j hj => hat2.elim (fun h => HVO.out j (h ▸ hj)) (fun ⟨b, h, hle⟩ => by rw [h] at hj; injection hj with hj; omega)); have hne : ∀ j, j < w.heap.size + 4 ∨ j = bx → some j ≠ v.ownBlock := (fun j hj e => hj.elim (fun h => by have h1 := HVO.out j e.symm; omega) (fun h => HBV.out j e.symm h)); have HG3 := Lib.hid ((hg2.block (w.heap.size + 3) (by omega) (hne _ (.inl (by omega)))).trans HN3i.out); have HGX := Lib.hid ((hg2.block bx (by omega) (hne _ (.inr rfl))).trans HXBi.out); have HG1 := Lib.hid ((hg2.block (w.heap.size + 1) (by omega) (hne _ (.inl (by omega)))).trans HN1i.out); have HG2 := Lib.hid ((hg2.block (w.heap.size + 2) (by omega) (hne _ (.inl (by omega)))).trans HN2i.out); have hbw2 : Below w.heap.size w w2 := hbi.grown hg2 hbi.size (fun r e => by have := HVO.out r e; omega); have HBV2 : Hid (∀ j, v2.ownBlock = some j → j ≠ bx) := Lib.hid (fun j hj e => hat2.elim (fun h => HBV.out j (h ▸ hj) e) (fun ⟨b, h, hle⟩ => by rw [h] at hj; injection hj with hj; omega)); have HO2 := Lib.hid ho2; have hcs : w2.cell? ⟨w.heap.size + 2 + 1, 3, none⟩ = some v := cell_of HG3.out rfl; have hfs : w2.frozen? ⟨w.heap.size + 2 + 1, 3, none⟩ = false := unfr HG3.out 3; obtain ⟨A2, c2, rfl, hc2, hC2⟩ := Kd.R_reads ho2; clear ho2 hC2 hne hat2 o3 f0 f1 f2 f3; (generalize hol2 : (out ++ [f]).length = ol2 at *); clear hol2)
              have HN1t := Lib.hid ((Below.heap_setCell w2 ⟨w.heap.size + 3, 3, none⟩ (.slice A2 ol2 c2) (w.heap.size + 1) (by simp only; omega)).trans HG1.out)
              have HN2t := Lib.hid ((Below.heap_setCell w2 ⟨w.heap.size + 3, 3, none⟩ (.slice A2 ol2 c2) (w.heap.size + 2) (by simp only; omega)).trans HG2.out)
              have HXBt := Lib.hid ((Below.heap_setCell w2 ⟨w.heap.size + 3, 3, none⟩ (.slice A2 ol2 c2) bx (by simp only; omega)).trans HGX.out)
              have HN3t := Lib.hid (blk_put (cs := #[.string t.name, .int .u8 t.kind, .string t.data, v]) HG3.out 3 (.slice A2 ol2 c2) rfl)
              have HVt := Lib.hid (Kd.R_far (p := ⟨w.heap.size + 3, 3, none⟩) HO2.out (fun j hj => by
                rcases hj with h | h
                · have := HOKF.out j h
                  simp only
                  omega
                · simp only
                  omega) (.slice A2 ol2 c2))
              have hbt := hbw2.setCell (p := ⟨w.heap.size + 3, 3, none⟩) (by simp only; omega) (.slice A2 ol2 c2)
              clear hcs hfs HG1 HG2 HG3 HGX HO2 HN1i HN2i HN3i HXBi HVi HBV HVO hbw2 hg2 hb2 hbi hz1 hz2 hz3 hzx
              have HBV := HBV2
              have HVO := HVO2
              have hol : (out ++ [f]).length ≤ 2 * k + 1 := by simp only [List.length_append, List.length_cons, List.length_nil]; omega
              clear HBV2 HVO2 hout
              change Hid ((w2.setCell ⟨w.heap.size + 3, 3, none⟩ (.slice A2 ol2 c2)).heap[w.heap.size + 3]? = some (.cells #[.string t.name, .int .u8 t.kind, .string t.data, (.slice A2 ol2 c2)] 25 (0, 0))) at HN3t
              generalize hv9 : Value.slice A2 ol2 c2 = v9 at *
              clear hv9
              generalize w2.setCell ⟨w.heap.size + 3, 3, none⟩ v9 = Wt at *
              generalize out ++ [f] = out9 at *
              have x0 : Wt.cell? ⟨bx, 0, none⟩ = some (.string x.name) := cell_of HXBt.out rfl
              have hpn := HPN.out Wt hbt
              cases hnm : nameIs n x
              · have q1 : (x.name.toList == n.toList) = false := hnm
                have q2 : (x.name.toList != n.toList) = true := by rw [bne, q1]; rfl
                go_wp2_with fail
                go_quiet (fail)
                have hb9 := bdrewN (Below.refl Wt.heap.size Wt) nq
                have hbq := bstep hbt hbt.size hb9
                have HN1q := Lib.hid ((hb9.block _ (blk_lt HN1t.out)).trans HN1t.out)
                have HN2q := Lib.hid ((hb9.block _ (blk_lt HN2t.out)).trans HN2t.out)
                have HN3q := Lib.hid ((hb9.block _ (blk_lt HN3t.out)).trans HN3t.out)
                have HXBq := Lib.hid ((hb9.block _ (blk_lt HXBt.out)).trans HXBt.out)
                have HVq := Lib.hid (Kd.R_below HVt.out hb9)
                clear HN1t HN2t HN3t HXBt HVt x0 hpn hbt hb9
                generalize Wt.drewN nq = Wq at *
                go_wp2_with fail
                have HBX : Hid (∀ W, Below Wq.heap.size Wq W → W.heap[w.heap.size + 3]? = some (.cells #[.string t.name, .int .u8 t.kind, .string t.data, v9] 25 (0, 0)) ∧ W.heap[bx]? = some (.cells #[.string x.name, .int .u8 x.kind, .string x.data, .slice A' x.files.length c'] 25 (0, 0)) ∧ W.heap[w.heap.size + 1]? = some (.cells #[.string f.name, .int .u8 f.kind, .string f.data, .slice Af f.files.length cf] 25 (0, 0))) := Lib.hid fun W h =>
                  ⟨(h.block _ (blk_lt HN3q.out)).trans HN3q.out, (h.block _ (blk_lt HXBq.out)).trans HXBq.out, (h.block _ (blk_lt HN1q.out)).trans HN1q.out⟩
                have hz1 := blk_lt HN1q.out
                have hz2 := blk_lt HN2q.out
                have hz3 := blk_lt HN3q.out
                have hzx := blk_lt HXBq.out
                have HCP := Lib.hid (HCPY.out Wq hbq)
                refine start_ (n := 8) (S := fun w' => w'.heap[w.heap.size + 3]? = some (.cells #[.string t.name, .int .u8 t.kind, .string t.data, v9] 25 (0, 0)) ∧ w'.heap[bx]? = some (.cells #[.string x.name, .int .u8 x.kind, .string x.data, .slice A' x.files.length c'] 25 (0, 0)) ∧ w'.heap[w.heap.size + 1]? = some (.cells #[.string f.name, .int .u8 f.kind, .string f.data, .slice Af f.files.length cf] 25 (0, 0))) (ds := [7]) (bw 8 0) (by kernel_rfl) rfl rfl (HBX.out _ (bdrew (Below.refl _ _))) (fun hHeld => ?_)
                refine pure_ (i := 0) (N := some 59) (v := ?_) (a' := ?_) (bw 8 1) rfl rfl (by kernel_rfl) (fun _ _ _ h => h) (Or.inl ⟨by rfl, ?_⟩) ?_ ?_
                rotate_left
                · intro w'
                  go_simp
                  with_reducible rfl
                rotate_left
                · simp only [Act.put, List.setIfInBounds_toArray, List.set_cons_zero, List.set_cons_succ, i64_w, i32_w]
                  rfl
                refine take_ (i := 1) (N := some 60) (v := ?_) (a' := ?_) (bw 8 3) rfl rfl (by kernel_rfl) (fun _ _ _ h => h) (Or.inl ⟨by rfl, ?_⟩) hHeld ?_ ?_
                rotate_left
                · rintro w' ⟨s0, s1, s2⟩
                  have q3 : w'.cell? ⟨w.heap.size + 2 + 1, 3, none⟩ = some v9 := cell_of (j := 3) s0 rfl
                  go_simp
                  with_reducible rfl
                rotate_left
                · simp only [Act.put, List.setIfInBounds_toArray, List.set_cons_zero, List.set_cons_succ, i64_w, i32_w]
                  rfl
                refine take_ (i := 2) (N := some 61) (v := ?_) (a' := ?_) (bw 8 7) rfl rfl (by kernel_rfl) (fun _ _ _ h => h) (Or.inl ⟨by rfl, ?_⟩) hHeld ?_ ?_
                rotate_left
                · rintro w' ⟨s0, s1, s2⟩
                  have q0 := cell_of (j := 0) s1 rfl
                  have q1 := cell_of (j := 1) s1 rfl
                  have q2 := cell_of (j := 2) s1 rfl
                  have q3 := cell_of (j := 3) s1 rfl
                  go_simp
                  with_reducible rfl
                rotate_left
                · simp only [Act.put, List.setIfInBounds_toArray, List.set_cons_zero, List.set_cons_succ, i64_w, i32_w]
                  rfl
                refine one_ (i := 3) (N := some 62) (bw 8 15) rfl rfl (by kernel_rfl) (by decide) (fun K hK => ?_)
                refine goes_ Tryd.func12 (by kernel_rfl) rfl #[.agg #[.string x.name, .int .u8 x.kind, .string x.data, .slice A' x.files.length c']] (by rfl) rfl rfl (by simp only [List.map_toArray, List.map_cons, List.map_nil]; rfl) ?_
                refine (HCP.out _ (bdrew (Below.refl _ _))).mono ?_
                rintro e w1 ⟨v1, rfl, ho1, hb1'⟩
                refine ⟨_, rfl, ?_⟩
                have hs1 := hb1'.size
                have HB1 := Lib.hid (HBX.out _ hb1')
                have HV1 := Lib.hid (Kd.R_below HVq.out hb1')
                have HP1 := Lib.hid ho1
                obtain ⟨A1, c1, rfl, hc1, hC1⟩ := Kd.R_reads ho1
                clear ho1 hC1 hHeld
                refine hK.out _ _ HB1.out (fun hHeld => ?_)
                refine norm_ (a' := ?_) ?_ ?_
                rotate_left
                · show Act.put _ (some 62) _ = _
                  simp only [Act.put, List.setIfInBounds_toArray, List.set_cons_zero, List.set_cons_succ, i64_w, i32_w]
                  rfl
                refine one_ (i := 4) (N := some 63) (bw 8 31) rfl rfl (by kernel_rfl) (by decide) (fun K hK => ?_)
                refine value_ (w1 := ?_) (v := ?_) (by rfl) rfl ?_ ?_
                rotate_left 2
                · go_simp
                  constructor
                  · rfl
                  · rfl
                refine hK.out _ _ (HBX.out _ (below_alloc hb1' (.cells #[.string x.name, .int .u8 x.kind, .string x.data, .slice A1 x.files.length c1] 25))) (fun hHeld => ?_)
                refine norm_ (a' := ?_) ?_ ?_
                rotate_left
                · show Act.put _ (some 63) _ = _
                  simp only [Act.put, List.setIfInBounds_toArray, List.set_cons_zero, List.set_cons_succ, i64_w, i32_w]
                  rfl
                refine one_ (i := 5) (N := some 64) (bw 8 63) rfl rfl (by kernel_rfl) (by decide) (fun K hK => ?_)
                refine Kd.R_append_step FileK (w0 := w1) 0 (by rfl) (.tmp 60) (.tmp 63) 23 25 (.agg #[(.string ⟨#[]⟩), (.int .u8 0), (.string ⟨#[]⟩), (.slice none 0 0)]) 64 rfl Tryd.underlying23 info_file rfl (by decide) (by omega) v9 out9 x [.string x.name, .int .u8 x.kind, .string x.data, .slice A1 x.files.length c1] (fun j => okf j ∨ w.heap.size + 4 ≤ j) (fun j => okf j ∨ Wq.heap.size ≤ j) rfl rfl ?aP ?aK ?aF ?aO ?aB ?aS ?aL ?_
                case aP => exact file_mkM _ _ _ x HP1.out
                case aK => exact fun j hj => ⟨hj.imp id fun h => by omega, fun e => by
                  have h1 := HVO.out j e.symm
                  have h2 := Kd.R_lt HVq.out j e.symm
                  rcases hj with h | h
                  · have := HOKF.out j h
                    omega
                  · omega⟩
                case aF => exact fun j hj => .inr (by omega)
                case aO => exact HV1.out
                case aB => exact Below.refl _ _
                case aS => exact Nat.zero_le _
                case aL => omega
                intro v2 w2 ho2 hb2 hg2 hat2
                have hs2 := hg2.size
                have HVO2 : Hid (∀ j, v2.ownBlock = some j → w.heap.size + 4 ≤ j) := Lib.hid fun j hj => by
                  rcases hat2 with h | ⟨b, h, hle⟩
                  · exact HVO.out j (h ▸ hj)
                  · rw [h] at hj
                    injection hj with hj
                    omega
                have hne : ∀ j, j < w.heap.size + 4 ∨ j = bx → some j ≠ v9.ownBlock := fun j hj e => by
                  have h1 := HVO.out j e.symm
                  rcases hj with h | h
                  · omega
                  · exact HBV.out j e.symm h
                have HG3 := Lib.hid ((hg2.block (w.heap.size + 3) (by omega) (hne _ (.inl (by omega)))).trans HB1.out.1)
                have HGX := Lib.hid ((hg2.block bx (by omega) (hne _ (.inr rfl))).trans HB1.out.2.1)
                have HG1 := Lib.hid ((hg2.block (w.heap.size + 1) (by omega) (hne _ (.inl (by omega)))).trans HB1.out.2.2)
                have HG2 := Lib.hid ((hg2.block (w.heap.size + 2) (by omega) (hne _ (.inl (by omega)))).trans ((hb1'.block (w.heap.size + 2) (by omega)).trans HN2q.out))
                have hbw2 : Below w.heap.size w w2 := (bstep hbq hbq.size hb1').grown hg2 (Nat.le_trans hbq.size hb1'.size) (fun r e => by have := HVO.out r e; omega)
                have HO2 := Lib.hid ho2
                obtain ⟨A2, c2, rfl, hc2, hC2⟩ := Kd.R_reads ho2
                clear ho2 hC2 hHeld hne hat2
                generalize hol2 : (out9 ++ [x]).length = ol2 at *
                clear hol2
                refine hK.out _ _ ⟨HG3.out, HGX.out, HG1.out⟩ (fun hHeld => ?_)
                refine norm_ (a' := ?_) ?_ ?_
                rotate_left
                · show Act.put _ (some 64) _ = _
                  simp only [Act.put, List.setIfInBounds_toArray, List.set_cons_zero, List.set_cons_succ, i64_w, i32_w]
                  rfl
                refine pure_ (i := 6) (N := some 65) (v := ?_) (a' := ?_) (bw 8 127) rfl rfl (by kernel_rfl) (fun _ _ _ h => h) (Or.inl ⟨by rfl, ?_⟩) ?_ ?_
                rotate_left
                · intro w'
                  go_simp
                  with_reducible rfl
                rotate_left
                · simp only [Act.put, List.setIfInBounds_toArray, List.set_cons_zero, List.set_cons_succ, i64_w, i32_w]
                  rfl
                refine last_ (i := 7) (N := none) (bw 8 255) rfl rfl (by kernel_rfl) (by decide) (fun K hK => ?_)
                have hcs : w2.cell? ⟨w.heap.size + 2 + 1, 3, none⟩ = some v9 := cell_of HG3.out rfl
                have hfs : w2.frozen? ⟨w.heap.size + 2 + 1, 3, none⟩ = false := unfr HG3.out 3
                refine skip_ (w1 := ?_) (by rfl) rfl ?_ ?_
                rotate_left
                · go_simp
                  rfl
                refine hK.out _ _ ?_
                refine done_ (by kernel_rfl) ?_
                have HN3' := Lib.hid (blk_put (cs := #[.string t.name, .int .u8 t.kind, .string t.data, v9]) HG3.out 3 (.slice A2 ol2 c2) rfl)
                have HON := Lib.hid (Kd.R_far (p := ⟨w.heap.size + 3, 3, none⟩) HO2.out (fun j hj => by
                  rcases hj with h | h
                  · have := HOKF.out j h
                    simp only
                    omega
                  · simp only
                    omega) (.slice A2 ol2 c2))
                go_wp2_with fail
                go_roundw
                case rel => exact ⟨k + 1, true, _, out9 ++ [x], by omega, rfl, by go_num, trivial, hbw2.setCell (p := ⟨w.heap.size + 3, 3, none⟩) (by simp only; omega) _, Lib.hid ((Below.heap_setCell _ _ _ _ (by simp only; omega)).trans HG1.out), Lib.hid ((Below.heap_setCell _ _ _ _ (by simp only; omega)).trans HG2.out), HN3', HON, HVO2, by simp only [List.length_append, List.length_cons, List.length_nil]; omega, Lib.hid (by rw [HZ.out, HCH0.out hnm]; simp)⟩
                case measure => simp [RowKit.intOf]; omega
              · have q1 : (x.name.toList == n.toList) = true := hnm
                have q2 : (x.name.toList != n.toList) = false := by rw [bne, q1]; rfl
                go_wp2_with fail
                go_quiet (fail)
                have hb9 := bdrewN (Below.refl Wt.heap.size Wt) nq
                have hbq := bstep hbt hbt.size hb9
                have HN1q := Lib.hid ((hb9.block _ (blk_lt HN1t.out)).trans HN1t.out)
                have HN2q := Lib.hid ((hb9.block _ (blk_lt HN2t.out)).trans HN2t.out)
                have HN3q := Lib.hid ((hb9.block _ (blk_lt HN3t.out)).trans HN3t.out)
                have HXBq := Lib.hid ((hb9.block _ (blk_lt HXBt.out)).trans HXBt.out)
                have HVq := Lib.hid (Kd.R_below HVt.out hb9)
                clear HN1t HN2t HN3t HXBt HVt x0 hpn hbt hb9
                generalize Wt.drewN nq = Wq at *
                go_wp2_with fail
                go_roundw
                case rel => exact ⟨k + 1, true, v9, out9, by omega, rfl, by go_num, trivial, hbq, HN1q, HN2q, HN3q, HVq, HVO, by omega, Lib.hid (by rw [HZ.out, HCH1.out hnm]; rfl)⟩
                case measure => simp [RowKit.intOf]; omega
            · have HZ : Hid (Z = out ++ (chO p2.isEmpty n (withR false f p2) x ++ withL false f n p2.isEmpty (withR false f p2) (t.files.drop (k + 1)) false)) := Lib.hid (by
                have h : insB false n p2.isEmpty false x = false := by unfold insB; rw [HLS.out, hge]; rfl
                have := HZ1.out
                rw [h] at this
                simpa using this)
              have hol : out.length ≤ 2 * k + 1 := by omega
              clear HZ1 HPT
              go_wp2_with fail
              go_quiet (fail)
              have hb9 := bdrewN (Below.refl W1.heap.size W1) nq
              have hbt := bstep hb1 hb1.size hb9
              have HN1t := Lib.hid ((hb9.block _ (blk_lt HN11.out)).trans HN11.out)
              have HN2t := Lib.hid ((hb9.block _ (blk_lt HN21.out)).trans HN21.out)
              have HN3t := Lib.hid ((hb9.block _ (blk_lt HN31.out)).trans HN31.out)
              have HXBt := Lib.hid ((hb9.block _ (blk_lt HXB1.out)).trans HXB1.out)
              have HVt := Lib.hid (Kd.R_below HV1.out hb9)
              clear HN11 HN21 HN31 HXB1 HV1 hb9 x0 hpn
              generalize W1.drewN nq = Wt at *
              go_wp2_with fail
              have x0 : Wt.cell? ⟨bx, 0, none⟩ = some (.string x.name) := cell_of HXBt.out rfl
              have hpn := HPN.out Wt hbt
              cases hnm : nameIs n x
              · have q1 : (x.name.toList == n.toList) = false := hnm
                have q2 : (x.name.toList != n.toList) = true := by rw [bne, q1]; rfl
                go_wp2_with fail
                go_quiet (fail)
                have hb9 := bdrewN (Below.refl Wt.heap.size Wt) nq
                have hbq := bstep hbt hbt.size hb9
                have HN1q := Lib.hid ((hb9.block _ (blk_lt HN1t.out)).trans HN1t.out)
                have HN2q := Lib.hid ((hb9.block _ (blk_lt HN2t.out)).trans HN2t.out)
                have HN3q := Lib.hid ((hb9.block _ (blk_lt HN3t.out)).trans HN3t.out)
                have HXBq := Lib.hid ((hb9.block _ (blk_lt HXBt.out)).trans HXBt.out)
                have HVq := Lib.hid (Kd.R_below HVt.out hb9)
                clear HN1t HN2t HN3t HXBt HVt x0 hpn hbt hb9
                generalize Wt.drewN nq = Wq at *
                go_wp2_with fail
                have HBX : Hid (∀ W, Below Wq.heap.size Wq W → W.heap[w.heap.size + 3]? = some (.cells #[.string t.name, .int .u8 t.kind, .string t.data, v] 25 (0, 0)) ∧ W.heap[bx]? = some (.cells #[.string x.name, .int .u8 x.kind, .string x.data, .slice A' x.files.length c'] 25 (0, 0)) ∧ W.heap[w.heap.size + 1]? = some (.cells #[.string f.name, .int .u8 f.kind, .string f.data, .slice Af f.files.length cf] 25 (0, 0))) := Lib.hid fun W h =>
                  ⟨(h.block _ (blk_lt HN3q.out)).trans HN3q.out, (h.block _ (blk_lt HXBq.out)).trans HXBq.out, (h.block _ (blk_lt HN1q.out)).trans HN1q.out⟩
                have hz1 := blk_lt HN1q.out
                have hz2 := blk_lt HN2q.out
                have hz3 := blk_lt HN3q.out
                have hzx := blk_lt HXBq.out
                have HCP := Lib.hid (HCPY.out Wq hbq)
                refine start_ (n := 8) (S := fun w' => w'.heap[w.heap.size + 3]? = some (.cells #[.string t.name, .int .u8 t.kind, .string t.data, v] 25 (0, 0)) ∧ w'.heap[bx]? = some (.cells #[.string x.name, .int .u8 x.kind, .string x.data, .slice A' x.files.length c'] 25 (0, 0)) ∧ w'.heap[w.heap.size + 1]? = some (.cells #[.string f.name, .int .u8 f.kind, .string f.data, .slice Af f.files.length cf] 25 (0, 0))) (ds := [7]) (bw 8 0) (by kernel_rfl) rfl rfl (HBX.out _ (bdrew (Below.refl _ _))) (fun hHeld => ?_)
                refine pure_ (i := 0) (N := some 59) (v := ?_) (a' := ?_) (bw 8 1) rfl rfl (by kernel_rfl) (fun _ _ _ h => h) (Or.inl ⟨by rfl, ?_⟩) ?_ ?_
                rotate_left
                · intro w'
                  go_simp
                  with_reducible rfl
                rotate_left
                · simp only [Act.put, List.setIfInBounds_toArray, List.set_cons_zero, List.set_cons_succ, i64_w, i32_w]
                  rfl
                refine take_ (i := 1) (N := some 60) (v := ?_) (a' := ?_) (bw 8 3) rfl rfl (by kernel_rfl) (fun _ _ _ h => h) (Or.inl ⟨by rfl, ?_⟩) hHeld ?_ ?_
                rotate_left
                · rintro w' ⟨s0, s1, s2⟩
                  have q3 : w'.cell? ⟨w.heap.size + 2 + 1, 3, none⟩ = some v := cell_of (j := 3) s0 rfl
                  go_simp
                  with_reducible rfl
                rotate_left
                · simp only [Act.put, List.setIfInBounds_toArray, List.set_cons_zero, List.set_cons_succ, i64_w, i32_w]
                  rfl
                refine take_ (i := 2) (N := some 61) (v := ?_) (a' := ?_) (bw 8 7) rfl rfl (by kernel_rfl) (fun _ _ _ h => h) (Or.inl ⟨by rfl, ?_⟩) hHeld ?_ ?_
                rotate_left
                · rintro w' ⟨s0, s1, s2⟩
                  have q0 := cell_of (j := 0) s1 rfl
                  have q1 := cell_of (j := 1) s1 rfl
                  have q2 := cell_of (j := 2) s1 rfl
                  have q3 := cell_of (j := 3) s1 rfl
                  go_simp
                  with_reducible rfl
                rotate_left
                · simp only [Act.put, List.setIfInBounds_toArray, List.set_cons_zero, List.set_cons_succ, i64_w, i32_w]
                  rfl
                refine one_ (i := 3) (N := some 62) (bw 8 15) rfl rfl (by kernel_rfl) (by decide) (fun K hK => ?_)
                refine goes_ Tryd.func12 (by kernel_rfl) rfl #[.agg #[.string x.name, .int .u8 x.kind, .string x.data, .slice A' x.files.length c']] (by rfl) rfl rfl (by simp only [List.map_toArray, List.map_cons, List.map_nil]; rfl) ?_
                refine (HCP.out _ (bdrew (Below.refl _ _))).mono ?_
                rintro e w1 ⟨v1, rfl, ho1, hb1'⟩
                refine ⟨_, rfl, ?_⟩
                have hs1 := hb1'.size
                have HB1 := Lib.hid (HBX.out _ hb1')
                have HV1 := Lib.hid (Kd.R_below HVq.out hb1')
                have HP1 := Lib.hid ho1
                obtain ⟨A1, c1, rfl, hc1, hC1⟩ := Kd.R_reads ho1
                clear ho1 hC1 hHeld
                refine hK.out _ _ HB1.out (fun hHeld => ?_)
                refine norm_ (a' := ?_) ?_ ?_
                rotate_left
                · show Act.put _ (some 62) _ = _
                  simp only [Act.put, List.setIfInBounds_toArray, List.set_cons_zero, List.set_cons_succ, i64_w, i32_w]
                  rfl
                refine one_ (i := 4) (N := some 63) (bw 8 31) rfl rfl (by kernel_rfl) (by decide) (fun K hK => ?_)
                refine value_ (w1 := ?_) (v := ?_) (by rfl) rfl ?_ ?_
                rotate_left 2
                · go_simp
                  constructor
                  · rfl
                  · rfl
                refine hK.out _ _ (HBX.out _ (below_alloc hb1' (.cells #[.string x.name, .int .u8 x.kind, .string x.data, .slice A1 x.files.length c1] 25))) (fun hHeld => ?_)
                refine norm_ (a' := ?_) ?_ ?_
                rotate_left
                · show Act.put _ (some 63) _ = _
                  simp only [Act.put, List.setIfInBounds_toArray, List.set_cons_zero, List.set_cons_succ, i64_w, i32_w]
                  rfl
                refine one_ (i := 5) (N := some 64) (bw 8 63) rfl rfl (by kernel_rfl) (by decide) (fun K hK => ?_)
                refine Kd.R_append_step FileK (w0 := w1) 0 (by rfl) (.tmp 60) (.tmp 63) 23 25 (.agg #[(.string ⟨#[]⟩), (.int .u8 0), (.string ⟨#[]⟩), (.slice none 0 0)]) 64 rfl Tryd.underlying23 info_file rfl (by decide) (by omega) v out x [.string x.name, .int .u8 x.kind, .string x.data, .slice A1 x.files.length c1] (fun j => okf j ∨ w.heap.size + 4 ≤ j) (fun j => okf j ∨ Wq.heap.size ≤ j) rfl rfl ?aP ?aK ?aF ?aO ?aB ?aS ?aL ?_
                case aP => exact file_mkM _ _ _ x HP1.out
                case aK => exact fun j hj => ⟨hj.imp id fun h => by omega, fun e => by
                  have h1 := HVO.out j e.symm
                  have h2 := Kd.R_lt HVq.out j e.symm
                  rcases hj with h | h
                  · have := HOKF.out j h
                    omega
                  · omega⟩
                case aF => exact fun j hj => .inr (by omega)
                case aO => exact HV1.out
                case aB => exact Below.refl _ _
                case aS => exact Nat.zero_le _
                case aL => omega
                intro v2 w2 ho2 hb2 hg2 hat2
                have hs2 := hg2.size
                have HVO2 : Hid (∀ j, v2.ownBlock = some j → w.heap.size + 4 ≤ j) := Lib.hid fun j hj => by
                  rcases hat2 with h | ⟨b, h, hle⟩
                  · exact HVO.out j (h ▸ hj)
                  · rw [h] at hj
                    injection hj with hj
                    omega
                have hne : ∀ j, j < w.heap.size + 4 ∨ j = bx → some j ≠ v.ownBlock := fun j hj e => by
                  have h1 := HVO.out j e.symm
                  rcases hj with h | h
                  · omega
                  · exact HBV.out j e.symm h
                have HG3 := Lib.hid ((hg2.block (w.heap.size + 3) (by omega) (hne _ (.inl (by omega)))).trans HB1.out.1)
                have HGX := Lib.hid ((hg2.block bx (by omega) (hne _ (.inr rfl))).trans HB1.out.2.1)
                have HG1 := Lib.hid ((hg2.block (w.heap.size + 1) (by omega) (hne _ (.inl (by omega)))).trans HB1.out.2.2)
                have HG2 := Lib.hid ((hg2.block (w.heap.size + 2) (by omega) (hne _ (.inl (by omega)))).trans ((hb1'.block (w.heap.size + 2) (by omega)).trans HN2q.out))
                have hbw2 : Below w.heap.size w w2 := (bstep hbq hbq.size hb1').grown hg2 (Nat.le_trans hbq.size hb1'.size) (fun r e => by have := HVO.out r e; omega)
                have HO2 := Lib.hid ho2
                obtain ⟨A2, c2, rfl, hc2, hC2⟩ := Kd.R_reads ho2
                clear ho2 hC2 hHeld hne hat2
                generalize hol2 : (out ++ [x]).length = ol2 at *
                clear hol2
                refine hK.out _ _ ⟨HG3.out, HGX.out, HG1.out⟩ (fun hHeld => ?_)
                refine norm_ (a' := ?_) ?_ ?_
                rotate_left
                · show Act.put _ (some 64) _ = _
                  simp only [Act.put, List.setIfInBounds_toArray, List.set_cons_zero, List.set_cons_succ, i64_w, i32_w]
                  rfl
                refine pure_ (i := 6) (N := some 65) (v := ?_) (a' := ?_) (bw 8 127) rfl rfl (by kernel_rfl) (fun _ _ _ h => h) (Or.inl ⟨by rfl, ?_⟩) ?_ ?_
                rotate_left
                · intro w'
                  go_simp
                  with_reducible rfl
                rotate_left
                · simp only [Act.put, List.setIfInBounds_toArray, List.set_cons_zero, List.set_cons_succ, i64_w, i32_w]
                  rfl
                refine last_ (i := 7) (N := none) (bw 8 255) rfl rfl (by kernel_rfl) (by decide) (fun K hK => ?_)
                have hcs : w2.cell? ⟨w.heap.size + 2 + 1, 3, none⟩ = some v := cell_of HG3.out rfl
                have hfs : w2.frozen? ⟨w.heap.size + 2 + 1, 3, none⟩ = false := unfr HG3.out 3
                refine skip_ (w1 := ?_) (by rfl) rfl ?_ ?_
                rotate_left
                · go_simp
                  rfl
                refine hK.out _ _ ?_
                refine done_ (by kernel_rfl) ?_
                have HN3' := Lib.hid (blk_put (cs := #[.string t.name, .int .u8 t.kind, .string t.data, v]) HG3.out 3 (.slice A2 ol2 c2) rfl)
                have HON := Lib.hid (Kd.R_far (p := ⟨w.heap.size + 3, 3, none⟩) HO2.out (fun j hj => by
                  rcases hj with h | h
                  · have := HOKF.out j h
                    simp only
                    omega
                  · simp only
                    omega) (.slice A2 ol2 c2))
                go_wp2_with fail
                go_roundw
                case rel => exact ⟨k + 1, false, _, out ++ [x], by omega, rfl, by go_num, trivial, hbw2.setCell (p := ⟨w.heap.size + 3, 3, none⟩) (by simp only; omega) _, Lib.hid ((Below.heap_setCell _ _ _ _ (by simp only; omega)).trans HG1.out), Lib.hid ((Below.heap_setCell _ _ _ _ (by simp only; omega)).trans HG2.out), HN3', HON, HVO2, by simp only [List.length_append, List.length_cons, List.length_nil]; omega, Lib.hid (by rw [HZ.out, HCH0.out hnm]; simp)⟩
                case measure => simp [RowKit.intOf]; omega
              · have q1 : (x.name.toList == n.toList) = true := hnm
                have q2 : (x.name.toList != n.toList) = false := by rw [bne, q1]; rfl
                go_wp2_with fail
                go_quiet (fail)
                have hb9 := bdrewN (Below.refl Wt.heap.size Wt) nq
                have hbq := bstep hbt hbt.size hb9
                have HN1q := Lib.hid ((hb9.block _ (blk_lt HN1t.out)).trans HN1t.out)
                have HN2q := Lib.hid ((hb9.block _ (blk_lt HN2t.out)).trans HN2t.out)
                have HN3q := Lib.hid ((hb9.block _ (blk_lt HN3t.out)).trans HN3t.out)
                have HXBq := Lib.hid ((hb9.block _ (blk_lt HXBt.out)).trans HXBt.out)
                have HVq := Lib.hid (Kd.R_below HVt.out hb9)
                clear HN1t HN2t HN3t HXBt HVt x0 hpn hbt hb9
                generalize Wt.drewN nq = Wq at *
                go_wp2_with fail
                go_roundw
                case rel => exact ⟨k + 1, false, v, out, by omega, rfl, by go_num, trivial, hbq, HN1q, HN2q, HN3q, HVq, HVO, by omega, Lib.hid (by rw [HZ.out, HCH1.out hnm]; rfl)⟩
                case measure => simp [RowKit.intOf]; omega
          · have HZ : Hid (Z = out ++ (chO p2.isEmpty n (withR true f p2) x ++ withL true f n p2.isEmpty (withR true f p2) (t.files.drop (k + 1)) false)) := Lib.hid (by
              have h : insB true n p2.isEmpty false x = false := by unfold insB; rw [HLS.out]; rfl
              have := HZ1.out
              rw [h] at this
              simpa using this)
            have hol : out.length ≤ 2 * k + 1 := by omega
            clear HZ1 HPT
            go_wp2_with fail
            go_quiet (fail)
            have hb9 := bdrewN (Below.refl W1.heap.size W1) nq
            have hbt := bstep hb1 hb1.size hb9
            have HN1t := Lib.hid ((hb9.block _ (blk_lt HN11.out)).trans HN11.out)
            have HN2t := Lib.hid ((hb9.block _ (blk_lt HN21.out)).trans HN21.out)
            have HN3t := Lib.hid ((hb9.block _ (blk_lt HN31.out)).trans HN31.out)
            have HXBt := Lib.hid ((hb9.block _ (blk_lt HXB1.out)).trans HXB1.out)
            have HVt := Lib.hid (Kd.R_below HV1.out hb9)
            clear HN11 HN21 HN31 HXB1 HV1 hb9 x0 hpn
            generalize W1.drewN nq = Wt at *
            go_wp2_with fail
            have x0 : Wt.cell? ⟨bx, 0, none⟩ = some (.string x.name) := cell_of HXBt.out rfl
            have hpn := HPN.out Wt hbt
            cases hnm : nameIs n x
            · have q1 : (x.name.toList == n.toList) = false := hnm
              have q2 : (x.name.toList != n.toList) = true := by rw [bne, q1]; rfl
              go_wp2_with fail
              go_quiet (fail)
              have hb9 := bdrewN (Below.refl Wt.heap.size Wt) nq
              have hbq := bstep hbt hbt.size hb9
              have HN1q := Lib.hid ((hb9.block _ (blk_lt HN1t.out)).trans HN1t.out)
              have HN2q := Lib.hid ((hb9.block _ (blk_lt HN2t.out)).trans HN2t.out)
              have HN3q := Lib.hid ((hb9.block _ (blk_lt HN3t.out)).trans HN3t.out)
              have HXBq := Lib.hid ((hb9.block _ (blk_lt HXBt.out)).trans HXBt.out)
              have HVq := Lib.hid (Kd.R_below HVt.out hb9)
              clear HN1t HN2t HN3t HXBt HVt x0 hpn hbt hb9
              generalize Wt.drewN nq = Wq at *
              go_wp2_with fail
              have HBX : Hid (∀ W, Below Wq.heap.size Wq W → W.heap[w.heap.size + 3]? = some (.cells #[.string t.name, .int .u8 t.kind, .string t.data, v] 25 (0, 0)) ∧ W.heap[bx]? = some (.cells #[.string x.name, .int .u8 x.kind, .string x.data, .slice A' x.files.length c'] 25 (0, 0)) ∧ W.heap[w.heap.size + 1]? = some (.cells #[.string f.name, .int .u8 f.kind, .string f.data, .slice Af f.files.length cf] 25 (0, 0))) := Lib.hid fun W h =>
                ⟨(h.block _ (blk_lt HN3q.out)).trans HN3q.out, (h.block _ (blk_lt HXBq.out)).trans HXBq.out, (h.block _ (blk_lt HN1q.out)).trans HN1q.out⟩
              have hz1 := blk_lt HN1q.out
              have hz2 := blk_lt HN2q.out
              have hz3 := blk_lt HN3q.out
              have hzx := blk_lt HXBq.out
              have HCP := Lib.hid (HCPY.out Wq hbq)
              refine start_ (n := 8) (S := fun w' => w'.heap[w.heap.size + 3]? = some (.cells #[.string t.name, .int .u8 t.kind, .string t.data, v] 25 (0, 0)) ∧ w'.heap[bx]? = some (.cells #[.string x.name, .int .u8 x.kind, .string x.data, .slice A' x.files.length c'] 25 (0, 0)) ∧ w'.heap[w.heap.size + 1]? = some (.cells #[.string f.name, .int .u8 f.kind, .string f.data, .slice Af f.files.length cf] 25 (0, 0))) (ds := [7]) (bw 8 0) (by kernel_rfl) rfl rfl (HBX.out _ (bdrew (Below.refl _ _))) (fun hHeld => ?_)
              refine pure_ (i := 0) (N := some 59) (v := ?_) (a' := ?_) (bw 8 1) rfl rfl (by kernel_rfl) (fun _ _ _ h => h) (Or.inl ⟨by rfl, ?_⟩) ?_ ?_
              rotate_left
              · intro w'
                go_simp
                with_reducible rfl
              rotate_left
              · simp only [Act.put, List.setIfInBounds_toArray, List.set_cons_zero, List.set_cons_succ, i64_w, i32_w]
                rfl
              refine take_ (i := 1) (N := some 60) (v := ?_) (a' := ?_) (bw 8 3) rfl rfl (by kernel_rfl) (fun _ _ _ h => h) (Or.inl ⟨by rfl, ?_⟩) hHeld ?_ ?_
              rotate_left
              · rintro w' ⟨s0, s1, s2⟩
                have q3 : w'.cell? ⟨w.heap.size + 2 + 1, 3, none⟩ = some v := cell_of (j := 3) s0 rfl
                go_simp
                with_reducible rfl
              rotate_left
              · simp only [Act.put, List.setIfInBounds_toArray, List.set_cons_zero, List.set_cons_succ, i64_w, i32_w]
                rfl
              refine take_ (i := 2) (N := some 61) (v := ?_) (a' := ?_) (bw 8 7) rfl rfl (by kernel_rfl) (fun _ _ _ h => h) (Or.inl ⟨by rfl, ?_⟩) hHeld ?_ ?_
              rotate_left
              · rintro w' ⟨s0, s1, s2⟩
                have q0 := cell_of (j := 0) s1 rfl
                have q1 := cell_of (j := 1) s1 rfl
                have q2 := cell_of (j := 2) s1 rfl
                have q3 := cell_of (j := 3) s1 rfl
                go_simp
                with_reducible rfl
              rotate_left
              · simp only [Act.put, List.setIfInBounds_toArray, List.set_cons_zero, List.set_cons_succ, i64_w, i32_w]
                rfl
              refine one_ (i := 3) (N := some 62) (bw 8 15) rfl rfl (by kernel_rfl) (by decide) (fun K hK => ?_)
              refine goes_ Tryd.func12 (by kernel_rfl) rfl #[.agg #[.string x.name, .int .u8 x.kind, .string x.data, .slice A' x.files.length c']] (by rfl) rfl rfl (by simp only [List.map_toArray, List.map_cons, List.map_nil]; rfl) ?_
              refine (HCP.out _ (bdrew (Below.refl _ _))).mono ?_
              rintro e w1 ⟨v1, rfl, ho1, hb1'⟩
              refine ⟨_, rfl, ?_⟩
              have hs1 := hb1'.size
              have HB1 := Lib.hid (HBX.out _ hb1')
              have HV1 := Lib.hid (Kd.R_below HVq.out hb1')
              have HP1 := Lib.hid ho1
              obtain ⟨A1, c1, rfl, hc1, hC1⟩ := Kd.R_reads ho1
              clear ho1 hC1 hHeld
              refine hK.out _ _ HB1.out (fun hHeld => ?_)
              refine norm_ (a' := ?_) ?_ ?_
              rotate_left
              · show Act.put _ (some 62) _ = _
                simp only [Act.put, List.setIfInBounds_toArray, List.set_cons_zero, List.set_cons_succ, i64_w, i32_w]
                rfl
              refine one_ (i := 4) (N := some 63) (bw 8 31) rfl rfl (by kernel_rfl) (by decide) (fun K hK => ?_)
              refine value_ (w1 := ?_) (v := ?_) (by rfl) rfl ?_ ?_
              rotate_left 2
              · go_simp
                constructor
                · rfl
                · rfl
              refine hK.out _ _ (HBX.out _ (below_alloc hb1' (.cells #[.string x.name, .int .u8 x.kind, .string x.data, .slice A1 x.files.length c1] 25))) (fun hHeld => ?_)
              refine norm_ (a' := ?_) ?_ ?_
              rotate_left
              · show Act.put _ (some 63) _ = _
                simp only [Act.put, List.setIfInBounds_toArray, List.set_cons_zero, List.set_cons_succ, i64_w, i32_w]
                rfl
              refine one_ (i := 5) (N := some 64) (bw 8 63) rfl rfl (by kernel_rfl) (by decide) (fun K hK => ?_)
              refine Kd.R_append_step FileK (w0 := w1) 0 (by rfl) (.tmp 60) (.tmp 63) 23 25 (.agg #[(.string ⟨#[]⟩), (.int .u8 0), (.string ⟨#[]⟩), (.slice none 0 0)]) 64 rfl Tryd.underlying23 info_file rfl (by decide) (by omega) v out x [.string x.name, .int .u8 x.kind, .string x.data, .slice A1 x.files.length c1] (fun j => okf j ∨ w.heap.size + 4 ≤ j) (fun j => okf j ∨ Wq.heap.size ≤ j) rfl rfl ?aP ?aK ?aF ?aO ?aB ?aS ?aL ?_
              case aP => exact file_mkM _ _ _ x HP1.out
              case aK => exact fun j hj => ⟨hj.imp id fun h => by omega, fun e => by
                have h1 := HVO.out j e.symm
                have h2 := Kd.R_lt HVq.out j e.symm
                rcases hj with h | h
                · have := HOKF.out j h
                  omega
                · omega⟩
              case aF => exact fun j hj => .inr (by omega)
              case aO => exact HV1.out
              case aB => exact Below.refl _ _
              case aS => exact Nat.zero_le _
              case aL => omega
              intro v2 w2 ho2 hb2 hg2 hat2
              have hs2 := hg2.size
              have HVO2 : Hid (∀ j, v2.ownBlock = some j → w.heap.size + 4 ≤ j) := Lib.hid fun j hj => by
                rcases hat2 with h | ⟨b, h, hle⟩
                · exact HVO.out j (h ▸ hj)
                · rw [h] at hj
                  injection hj with hj
                  omega
              have hne : ∀ j, j < w.heap.size + 4 ∨ j = bx → some j ≠ v.ownBlock := fun j hj e => by
                have h1 := HVO.out j e.symm
                rcases hj with h | h
                · omega
                · exact HBV.out j e.symm h
              have HG3 := Lib.hid ((hg2.block (w.heap.size + 3) (by omega) (hne _ (.inl (by omega)))).trans HB1.out.1)
              have HGX := Lib.hid ((hg2.block bx (by omega) (hne _ (.inr rfl))).trans HB1.out.2.1)
              have HG1 := Lib.hid ((hg2.block (w.heap.size + 1) (by omega) (hne _ (.inl (by omega)))).trans HB1.out.2.2)
              have HG2 := Lib.hid ((hg2.block (w.heap.size + 2) (by omega) (hne _ (.inl (by omega)))).trans ((hb1'.block (w.heap.size + 2) (by omega)).trans HN2q.out))
              have hbw2 : Below w.heap.size w w2 := (bstep hbq hbq.size hb1').grown hg2 (Nat.le_trans hbq.size hb1'.size) (fun r e => by have := HVO.out r e; omega)
              have HO2 := Lib.hid ho2
              obtain ⟨A2, c2, rfl, hc2, hC2⟩ := Kd.R_reads ho2
              clear ho2 hC2 hHeld hne hat2
              generalize hol2 : (out ++ [x]).length = ol2 at *
              clear hol2
              refine hK.out _ _ ⟨HG3.out, HGX.out, HG1.out⟩ (fun hHeld => ?_)
              refine norm_ (a' := ?_) ?_ ?_
              rotate_left
              · show Act.put _ (some 64) _ = _
                simp only [Act.put, List.setIfInBounds_toArray, List.set_cons_zero, List.set_cons_succ, i64_w, i32_w]
                rfl
              refine pure_ (i := 6) (N := some 65) (v := ?_) (a' := ?_) (bw 8 127) rfl rfl (by kernel_rfl) (fun _ _ _ h => h) (Or.inl ⟨by rfl, ?_⟩) ?_ ?_
              rotate_left
              · intro w'
                go_simp
                with_reducible rfl
              rotate_left
              · simp only [Act.put, List.setIfInBounds_toArray, List.set_cons_zero, List.set_cons_succ, i64_w, i32_w]
                rfl
              refine last_ (i := 7) (N := none) (bw 8 255) rfl rfl (by kernel_rfl) (by decide) (fun K hK => ?_)
              have hcs : w2.cell? ⟨w.heap.size + 2 + 1, 3, none⟩ = some v := cell_of HG3.out rfl
              have hfs : w2.frozen? ⟨w.heap.size + 2 + 1, 3, none⟩ = false := unfr HG3.out 3
              refine skip_ (w1 := ?_) (by rfl) rfl ?_ ?_
              rotate_left
              · go_simp
                rfl
              refine hK.out _ _ ?_
              refine done_ (by kernel_rfl) ?_
              have HN3' := Lib.hid (blk_put (cs := #[.string t.name, .int .u8 t.kind, .string t.data, v]) HG3.out 3 (.slice A2 ol2 c2) rfl)
              have HON := Lib.hid (Kd.R_far (p := ⟨w.heap.size + 3, 3, none⟩) HO2.out (fun j hj => by
                rcases hj with h | h
                · have := HOKF.out j h
                  simp only
                  omega
                · simp only
                  omega) (.slice A2 ol2 c2))
              go_wp2_with fail
              go_roundw
              case rel => exact ⟨k + 1, false, _, out ++ [x], by omega, rfl, by go_num, trivial, hbw2.setCell (p := ⟨w.heap.size + 3, 3, none⟩) (by simp only; omega) _, Lib.hid ((Below.heap_setCell _ _ _ _ (by simp only; omega)).trans HG1.out), Lib.hid ((Below.heap_setCell _ _ _ _ (by simp only; omega)).trans HG2.out), HN3', HON, HVO2, by simp only [List.length_append, List.length_cons, List.length_nil]; omega, Lib.hid (by rw [HZ.out, HCH0.out hnm]; simp)⟩
              case measure => simp [RowKit.intOf]; omega
            · have q1 : (x.name.toList == n.toList) = true := hnm
              have q2 : (x.name.toList != n.toList) = false := by rw [bne, q1]; rfl
              go_wp2_with fail
              go_quiet (fail)
              have hb9 := bdrewN (Below.refl Wt.heap.size Wt) nq
              have hbq := bstep hbt hbt.size hb9
              have HN1q := Lib.hid ((hb9.block _ (blk_lt HN1t.out)).trans HN1t.out)
              have HN2q := Lib.hid ((hb9.block _ (blk_lt HN2t.out)).trans HN2t.out)
              have HN3q := Lib.hid ((hb9.block _ (blk_lt HN3t.out)).trans HN3t.out)
              have HXBq := Lib.hid ((hb9.block _ (blk_lt HXBt.out)).trans HXBt.out)
              have HVq := Lib.hid (Kd.R_below HVt.out hb9)
              clear HN1t HN2t HN3t HXBt HVt x0 hpn hbt hb9
              generalize Wt.drewN nq = Wq at *
              go_wp2_with fail
              go_roundw
              case rel => exact ⟨k + 1, false, v, out, by omega, rfl, by go_num, trivial, hbq, HN1q, HN2q, HN3q, HVq, HVO, by omega, Lib.hid (by rw [HZ.out, HCH1.out hnm]; rfl)⟩
              case measure => simp [RowKit.intOf]; omega
        · have HZ : Hid (Z = out ++ (chO p2.isEmpty n (withR gone f p2) x ++ withL gone f n p2.isEmpty (withR gone f p2) (t.files.drop (k + 1)) true)) := Lib.hid (by
            have h : insB gone n p2.isEmpty true x = false := by unfold insB; rw [HLS.out]; rfl
            have := HZ1.out
            rw [h] at this
            simpa using this)
          have hol : out.length ≤ 2 * k + 1 := by omega
          clear HZ1 HPT
          go_wp2_with fail
          go_quiet (fail)
          have hb9 := bdrewN (Below.refl W1.heap.size W1) nq
          have hbt := bstep hb1 hb1.size hb9
          have HN1t := Lib.hid ((hb9.block _ (blk_lt HN11.out)).trans HN11.out)
          have HN2t := Lib.hid ((hb9.block _ (blk_lt HN21.out)).trans HN21.out)
          have HN3t := Lib.hid ((hb9.block _ (blk_lt HN31.out)).trans HN31.out)
          have HXBt := Lib.hid ((hb9.block _ (blk_lt HXB1.out)).trans HXB1.out)
          have HVt := Lib.hid (Kd.R_below HV1.out hb9)
          clear HN11 HN21 HN31 HXB1 HV1 hb9 x0 hpn
          generalize W1.drewN nq = Wt at *
          go_wp2_with fail
          have x0 : Wt.cell? ⟨bx, 0, none⟩ = some (.string x.name) := cell_of HXBt.out rfl
          have hpn := HPN.out Wt hbt
          cases hnm : nameIs n x
          · have q1 : (x.name.toList == n.toList) = false := hnm
            have q2 : (x.name.toList != n.toList) = true := by rw [bne, q1]; rfl
            go_wp2_with fail
            go_quiet (fail)
            have hb9 := bdrewN (Below.refl Wt.heap.size Wt) nq
            have hbq := bstep hbt hbt.size hb9
            have HN1q := Lib.hid ((hb9.block _ (blk_lt HN1t.out)).trans HN1t.out)
            have HN2q := Lib.hid ((hb9.block _ (blk_lt HN2t.out)).trans HN2t.out)
            have HN3q := Lib.hid ((hb9.block _ (blk_lt HN3t.out)).trans HN3t.out)
            have HXBq := Lib.hid ((hb9.block _ (blk_lt HXBt.out)).trans HXBt.out)
            have HVq := Lib.hid (Kd.R_below HVt.out hb9)
            clear HN1t HN2t HN3t HXBt HVt x0 hpn hbt hb9
            generalize Wt.drewN nq = Wq at *
            go_wp2_with fail
            have HBX : Hid (∀ W, Below Wq.heap.size Wq W → W.heap[w.heap.size + 3]? = some (.cells #[.string t.name, .int .u8 t.kind, .string t.data, v] 25 (0, 0)) ∧ W.heap[bx]? = some (.cells #[.string x.name, .int .u8 x.kind, .string x.data, .slice A' x.files.length c'] 25 (0, 0)) ∧ W.heap[w.heap.size + 1]? = some (.cells #[.string f.name, .int .u8 f.kind, .string f.data, .slice Af f.files.length cf] 25 (0, 0))) := Lib.hid fun W h =>
              ⟨(h.block _ (blk_lt HN3q.out)).trans HN3q.out, (h.block _ (blk_lt HXBq.out)).trans HXBq.out, (h.block _ (blk_lt HN1q.out)).trans HN1q.out⟩
            have hz1 := blk_lt HN1q.out
            have hz2 := blk_lt HN2q.out
            have hz3 := blk_lt HN3q.out
            have hzx := blk_lt HXBq.out
            have HCP := Lib.hid (HCPY.out Wq hbq)
            refine start_ (n := 8) (S := fun w' => w'.heap[w.heap.size + 3]? = some (.cells #[.string t.name, .int .u8 t.kind, .string t.data, v] 25 (0, 0)) ∧ w'.heap[bx]? = some (.cells #[.string x.name, .int .u8 x.kind, .string x.data, .slice A' x.files.length c'] 25 (0, 0)) ∧ w'.heap[w.heap.size + 1]? = some (.cells #[.string f.name, .int .u8 f.kind, .string f.data, .slice Af f.files.length cf] 25 (0, 0))) (ds := [7]) (bw 8 0) (by kernel_rfl) rfl rfl (HBX.out _ (bdrew (Below.refl _ _))) (fun hHeld => ?_)
            refine pure_ (i := 0) (N := some 59) (v := ?_) (a' := ?_) (bw 8 1) rfl rfl (by kernel_rfl) (fun _ _ _ h => h) (Or.inl ⟨by rfl, ?_⟩) ?_ ?_
            rotate_left
            · intro w'
              go_simp
              with_reducible rfl
            rotate_left
            · simp only [Act.put, List.setIfInBounds_toArray, List.set_cons_zero, List.set_cons_succ, i64_w, i32_w]
              rfl
            refine take_ (i := 1) (N := some 60) (v := ?_) (a' := ?_) (bw 8 3) rfl rfl (by kernel_rfl) (fun _ _ _ h => h) (Or.inl ⟨by rfl, ?_⟩) hHeld ?_ ?_
            rotate_left
            · rintro w' ⟨s0, s1, s2⟩
              have q3 : w'.cell? ⟨w.heap.size + 2 + 1, 3, none⟩ = some v := cell_of (j := 3) s0 rfl
              go_simp
              with_reducible rfl
            rotate_left
            · simp only [Act.put, List.setIfInBounds_toArray, List.set_cons_zero, List.set_cons_succ, i64_w, i32_w]
              rfl
            refine take_ (i := 2) (N := some 61) (v := ?_) (a' := ?_) (bw 8 7) rfl rfl (by kernel_rfl) (fun _ _ _ h => h) (Or.inl ⟨by rfl, ?_⟩) hHeld ?_ ?_
            rotate_left
            · rintro w' ⟨s0, s1, s2⟩
              have q0 := cell_of (j := 0) s1 rfl
              have q1 := cell_of (j := 1) s1 rfl
              have q2 := cell_of (j := 2) s1 rfl
              have q3 := cell_of (j := 3) s1 rfl
              go_simp
              with_reducible rfl
            rotate_left
            · simp only [Act.put, List.setIfInBounds_toArray, List.set_cons_zero, List.set_cons_succ, i64_w, i32_w]
              rfl
            refine one_ (i := 3) (N := some 62) (bw 8 15) rfl rfl (by kernel_rfl) (by decide) (fun K hK => ?_)
            refine goes_ Tryd.func12 (by kernel_rfl) rfl #[.agg #[.string x.name, .int .u8 x.kind, .string x.data, .slice A' x.files.length c']] (by rfl) rfl rfl (by simp only [List.map_toArray, List.map_cons, List.map_nil]; rfl) ?_
            refine (HCP.out _ (bdrew (Below.refl _ _))).mono ?_
            rintro e w1 ⟨v1, rfl, ho1, hb1'⟩
            refine ⟨_, rfl, ?_⟩
            have hs1 := hb1'.size
            have HB1 := Lib.hid (HBX.out _ hb1')
            have HV1 := Lib.hid (Kd.R_below HVq.out hb1')
            have HP1 := Lib.hid ho1
            obtain ⟨A1, c1, rfl, hc1, hC1⟩ := Kd.R_reads ho1
            clear ho1 hC1 hHeld
            refine hK.out _ _ HB1.out (fun hHeld => ?_)
            refine norm_ (a' := ?_) ?_ ?_
            rotate_left
            · show Act.put _ (some 62) _ = _
              simp only [Act.put, List.setIfInBounds_toArray, List.set_cons_zero, List.set_cons_succ, i64_w, i32_w]
              rfl
            refine one_ (i := 4) (N := some 63) (bw 8 31) rfl rfl (by kernel_rfl) (by decide) (fun K hK => ?_)
            refine value_ (w1 := ?_) (v := ?_) (by rfl) rfl ?_ ?_
            rotate_left 2
            · go_simp
              constructor
              · rfl
              · rfl
            refine hK.out _ _ (HBX.out _ (below_alloc hb1' (.cells #[.string x.name, .int .u8 x.kind, .string x.data, .slice A1 x.files.length c1] 25))) (fun hHeld => ?_)
            refine norm_ (a' := ?_) ?_ ?_
            rotate_left
            · show Act.put _ (some 63) _ = _
              simp only [Act.put, List.setIfInBounds_toArray, List.set_cons_zero, List.set_cons_succ, i64_w, i32_w]
              rfl
            refine one_ (i := 5) (N := some 64) (bw 8 63) rfl rfl (by kernel_rfl) (by decide) (fun K hK => ?_)
            refine Kd.R_append_step FileK (w0 := w1) 0 (by rfl) (.tmp 60) (.tmp 63) 23 25 (.agg #[(.string ⟨#[]⟩), (.int .u8 0), (.string ⟨#[]⟩), (.slice none 0 0)]) 64 rfl Tryd.underlying23 info_file rfl (by decide) (by omega) v out x [.string x.name, .int .u8 x.kind, .string x.data, .slice A1 x.files.length c1] (fun j => okf j ∨ w.heap.size + 4 ≤ j) (fun j => okf j ∨ Wq.heap.size ≤ j) rfl rfl ?aP ?aK ?aF ?aO ?aB ?aS ?aL ?_
            case aP => exact file_mkM _ _ _ x HP1.out
            case aK => exact fun j hj => ⟨hj.imp id fun h => by omega, fun e => by
              have h1 := HVO.out j e.symm
              have h2 := Kd.R_lt HVq.out j e.symm
              rcases hj with h | h
              · have := HOKF.out j h
                omega
              · omega⟩
            case aF => exact fun j hj => .inr (by omega)
            case aO => exact HV1.out
            case aB => exact Below.refl _ _
            case aS => exact Nat.zero_le _
            case aL => omega
            intro v2 w2 ho2 hb2 hg2 hat2
            have hs2 := hg2.size
            have HVO2 : Hid (∀ j, v2.ownBlock = some j → w.heap.size + 4 ≤ j) := Lib.hid fun j hj => by
              rcases hat2 with h | ⟨b, h, hle⟩
              · exact HVO.out j (h ▸ hj)
              · rw [h] at hj
                injection hj with hj
                omega
            have hne : ∀ j, j < w.heap.size + 4 ∨ j = bx → some j ≠ v.ownBlock := fun j hj e => by
              have h1 := HVO.out j e.symm
              rcases hj with h | h
              · omega
              · exact HBV.out j e.symm h
            have HG3 := Lib.hid ((hg2.block (w.heap.size + 3) (by omega) (hne _ (.inl (by omega)))).trans HB1.out.1)
            have HGX := Lib.hid ((hg2.block bx (by omega) (hne _ (.inr rfl))).trans HB1.out.2.1)
            have HG1 := Lib.hid ((hg2.block (w.heap.size + 1) (by omega) (hne _ (.inl (by omega)))).trans HB1.out.2.2)
            have HG2 := Lib.hid ((hg2.block (w.heap.size + 2) (by omega) (hne _ (.inl (by omega)))).trans ((hb1'.block (w.heap.size + 2) (by omega)).trans HN2q.out))
            have hbw2 : Below w.heap.size w w2 := (bstep hbq hbq.size hb1').grown hg2 (Nat.le_trans hbq.size hb1'.size) (fun r e => by have := HVO.out r e; omega)
            have HO2 := Lib.hid ho2
            obtain ⟨A2, c2, rfl, hc2, hC2⟩ := Kd.R_reads ho2
            clear ho2 hC2 hHeld hne hat2
            generalize hol2 : (out ++ [x]).length = ol2 at *
            clear hol2
            refine hK.out _ _ ⟨HG3.out, HGX.out, HG1.out⟩ (fun hHeld => ?_)
            refine norm_ (a' := ?_) ?_ ?_
            rotate_left
            · show Act.put _ (some 64) _ = _
              simp only [Act.put, List.setIfInBounds_toArray, List.set_cons_zero, List.set_cons_succ, i64_w, i32_w]
              rfl
            refine pure_ (i := 6) (N := some 65) (v := ?_) (a' := ?_) (bw 8 127) rfl rfl (by kernel_rfl) (fun _ _ _ h => h) (Or.inl ⟨by rfl, ?_⟩) ?_ ?_
            rotate_left
            · intro w'
              go_simp
              with_reducible rfl
            rotate_left
            · simp only [Act.put, List.setIfInBounds_toArray, List.set_cons_zero, List.set_cons_succ, i64_w, i32_w]
              rfl
            refine last_ (i := 7) (N := none) (bw 8 255) rfl rfl (by kernel_rfl) (by decide) (fun K hK => ?_)
            have hcs : w2.cell? ⟨w.heap.size + 2 + 1, 3, none⟩ = some v := cell_of HG3.out rfl
            have hfs : w2.frozen? ⟨w.heap.size + 2 + 1, 3, none⟩ = false := unfr HG3.out 3
            refine skip_ (w1 := ?_) (by rfl) rfl ?_ ?_
            rotate_left
            · go_simp
              rfl
            refine hK.out _ _ ?_
            refine done_ (by kernel_rfl) ?_
            have HN3' := Lib.hid (blk_put (cs := #[.string t.name, .int .u8 t.kind, .string t.data, v]) HG3.out 3 (.slice A2 ol2 c2) rfl)
            have HON := Lib.hid (Kd.R_far (p := ⟨w.heap.size + 3, 3, none⟩) HO2.out (fun j hj => by
              rcases hj with h | h
              · have := HOKF.out j h
                simp only
                omega
              · simp only
                omega) (.slice A2 ol2 c2))
            go_wp2_with fail
            go_roundw
            case rel => exact ⟨k + 1, true, _, out ++ [x], by omega, rfl, by go_num, trivial, hbw2.setCell (p := ⟨w.heap.size + 3, 3, none⟩) (by simp only; omega) _, Lib.hid ((Below.heap_setCell _ _ _ _ (by simp only; omega)).trans HG1.out), Lib.hid ((Below.heap_setCell _ _ _ _ (by simp only; omega)).trans HG2.out), HN3', HON, HVO2, by simp only [List.length_append, List.length_cons, List.length_nil]; omega, Lib.hid (by rw [HZ.out, HCH0.out hnm]; simp)⟩
            case measure => simp [RowKit.intOf]; omega
          · have q1 : (x.name.toList == n.toList) = true := hnm
            have q2 : (x.name.toList != n.toList) = false := by rw [bne, q1]; rfl
            go_wp2_with fail
            go_quiet (fail)
            have hb9 := bdrewN (Below.refl Wt.heap.size Wt) nq
            have hbq := bstep hbt hbt.size hb9
            have HN1q := Lib.hid ((hb9.block _ (blk_lt HN1t.out)).trans HN1t.out)
            have HN2q := Lib.hid ((hb9.block _ (blk_lt HN2t.out)).trans HN2t.out)
            have HN3q := Lib.hid ((hb9.block _ (blk_lt HN3t.out)).trans HN3t.out)
            have HXBq := Lib.hid ((hb9.block _ (blk_lt HXBt.out)).trans HXBt.out)
            have HVq := Lib.hid (Kd.R_below HVt.out hb9)
            clear HN1t HN2t HN3t HXBt HVt x0 hpn hbt hb9
            generalize Wt.drewN nq = Wq at *
            go_wp2_with fail
            go_roundw
            case rel => exact ⟨k + 1, true, v, out, by omega, rfl, by go_num, trivial, hbq, HN1q, HN2q, HN3q, HVq, HVO, by omega, Lib.hid (by rw [HZ.out, HCH1.out hnm]; rfl)⟩
            case measure => simp [RowKit.intOf]; omega
      · have HCH1 : Hid (nameIs n x = true → chO p2.isEmpty n (withR gone f p2) x = [withR gone f p2 x]) := Lib.hid fun h => by unfold chO; rw [if_pos h, if_neg (by cases p2 with | nil => exact absurd rfl hp2 | cons a b => simp)]
        have hp3 := List.length_pos_iff.2 hp2
        have hlp2 := HLP.out
        have l1 : ((lp : Int) == 1) = false := by rw [beq_eq_false_iff_ne]; omega
        have l2 : (1 : Int) < (lp : Int) := by omega
        have l3 : decide ((lp : Int) > 1) = true := decide_eq_true (by omega)
        have l4 : (1 : Int) ≤ (lp : Int) := by omega
        have l5 : ((lp : Int) - 1) = (p2.length : Int) := by omega
        have l6 : lp - 1 = p2.length := by omega
        have l7 : cp ≠ 1 := by omega
        clear hlp2
        have HWTH := Lib.hid (HWTH.out hp2)
        have HZ : Hid (Z = out ++ (chO p2.isEmpty n (withR gone f p2) x ++ withL gone f n p2.isEmpty (withR gone f p2) (t.files.drop (k + 1)) put)) := Lib.hid (by
          have h : insB gone n p2.isEmpty put x = false := by unfold insB; rw [show p2.isEmpty = false by cases p2 with | nil => exact absurd rfl hp2 | cons a b => rfl]; rfl
          have := HZ1.out
          rw [h] at this
          simpa using this)
        have hol : out.length ≤ 2 * k + 1 := by omega
        clear HI HZ1 HPT
        go_wp2_with fail
        go_quiet (fail)
        have hb9 := bdrewN (Below.refl W1.heap.size W1) nq
        have hbt := bstep hb1 hb1.size hb9
        have HN1t := Lib.hid ((hb9.block _ (blk_lt HN11.out)).trans HN11.out)
        have HN2t := Lib.hid ((hb9.block _ (blk_lt HN21.out)).trans HN21.out)
        have HN3t := Lib.hid ((hb9.block _ (blk_lt HN31.out)).trans HN31.out)
        have HXBt := Lib.hid ((hb9.block _ (blk_lt HXB1.out)).trans HXB1.out)
        have HVt := Lib.hid (Kd.R_below HV1.out hb9)
        clear HN11 HN21 HN31 HXB1 HV1 hb9 x0 hpn
        generalize W1.drewN nq = Wt at *
        go_wp2_with fail
        have x0 : Wt.cell? ⟨bx, 0, none⟩ = some (.string x.name) := cell_of HXBt.out rfl
        have hpn := HPN.out Wt hbt
        cases hnm : nameIs n x
        · have q1 : (x.name.toList == n.toList) = false := hnm
          have q2 : (x.name.toList != n.toList) = true := by rw [bne, q1]; rfl
          go_wp2_with fail
          go_quiet (fail)
          have hb9 := bdrewN (Below.refl Wt.heap.size Wt) nq
          have hbq := bstep hbt hbt.size hb9
          have HN1q := Lib.hid ((hb9.block _ (blk_lt HN1t.out)).trans HN1t.out)
          have HN2q := Lib.hid ((hb9.block _ (blk_lt HN2t.out)).trans HN2t.out)
          have HN3q := Lib.hid ((hb9.block _ (blk_lt HN3t.out)).trans HN3t.out)
          have HXBq := Lib.hid ((hb9.block _ (blk_lt HXBt.out)).trans HXBt.out)
          have HVq := Lib.hid (Kd.R_below HVt.out hb9)
          clear HN1t HN2t HN3t HXBt HVt x0 hpn hbt hb9
          generalize Wt.drewN nq = Wq at *
          go_wp2_with fail
          have HBX : Hid (∀ W, Below Wq.heap.size Wq W → W.heap[w.heap.size + 3]? = some (.cells #[.string t.name, .int .u8 t.kind, .string t.data, v] 25 (0, 0)) ∧ W.heap[bx]? = some (.cells #[.string x.name, .int .u8 x.kind, .string x.data, .slice A' x.files.length c'] 25 (0, 0)) ∧ W.heap[w.heap.size + 1]? = some (.cells #[.string f.name, .int .u8 f.kind, .string f.data, .slice Af f.files.length cf] 25 (0, 0))) := Lib.hid fun W h =>
            ⟨(h.block _ (blk_lt HN3q.out)).trans HN3q.out, (h.block _ (blk_lt HXBq.out)).trans HXBq.out, (h.block _ (blk_lt HN1q.out)).trans HN1q.out⟩
          have hz1 := blk_lt HN1q.out
          have hz2 := blk_lt HN2q.out
          have hz3 := blk_lt HN3q.out
          have hzx := blk_lt HXBq.out
          have HCP := Lib.hid (HCPY.out Wq hbq)
          refine start_ (n := 8) (S := fun w' => w'.heap[w.heap.size + 3]? = some (.cells #[.string t.name, .int .u8 t.kind, .string t.data, v] 25 (0, 0)) ∧ w'.heap[bx]? = some (.cells #[.string x.name, .int .u8 x.kind, .string x.data, .slice A' x.files.length c'] 25 (0, 0)) ∧ w'.heap[w.heap.size + 1]? = some (.cells #[.string f.name, .int .u8 f.kind, .string f.data, .slice Af f.files.length cf] 25 (0, 0))) (ds := [7]) (bw 8 0) (by kernel_rfl) rfl rfl (HBX.out _ (bdrew (Below.refl _ _))) (fun hHeld => ?_)
          refine pure_ (i := 0) (N := some 59) (v := ?_) (a' := ?_) (bw 8 1) rfl rfl (by kernel_rfl) (fun _ _ _ h => h) (Or.inl ⟨by rfl, ?_⟩) ?_ ?_
          rotate_left
          · intro w'
            go_simp
            with_reducible rfl
          rotate_left
          · simp only [Act.put, List.setIfInBounds_toArray, List.set_cons_zero, List.set_cons_succ, i64_w, i32_w]
            rfl
          refine take_ (i := 1) (N := some 60) (v := ?_) (a' := ?_) (bw 8 3) rfl rfl (by kernel_rfl) (fun _ _ _ h => h) (Or.inl ⟨by rfl, ?_⟩) hHeld ?_ ?_
          rotate_left
          · rintro w' ⟨s0, s1, s2⟩
            have q3 : w'.cell? ⟨w.heap.size + 2 + 1, 3, none⟩ = some v := cell_of (j := 3) s0 rfl
            go_simp
            with_reducible rfl
          rotate_left
          · simp only [Act.put, List.setIfInBounds_toArray, List.set_cons_zero, List.set_cons_succ, i64_w, i32_w]
            rfl
          refine take_ (i := 2) (N := some 61) (v := ?_) (a' := ?_) (bw 8 7) rfl rfl (by kernel_rfl) (fun _ _ _ h => h) (Or.inl ⟨by rfl, ?_⟩) hHeld ?_ ?_
          rotate_left
          · rintro w' ⟨s0, s1, s2⟩
            have q0 := cell_of (j := 0) s1 rfl
            have q1 := cell_of (j := 1) s1 rfl
            have q2 := cell_of (j := 2) s1 rfl
            have q3 := cell_of (j := 3) s1 rfl
            go_simp
            with_reducible rfl
          rotate_left
          · simp only [Act.put, List.setIfInBounds_toArray, List.set_cons_zero, List.set_cons_succ, i64_w, i32_w]
            rfl
          refine one_ (i := 3) (N := some 62) (bw 8 15) rfl rfl (by kernel_rfl) (by decide) (fun K hK => ?_)
          refine goes_ Tryd.func12 (by kernel_rfl) rfl #[.agg #[.string x.name, .int .u8 x.kind, .string x.data, .slice A' x.files.length c']] (by rfl) rfl rfl (by simp only [List.map_toArray, List.map_cons, List.map_nil]; rfl) ?_
          refine (HCP.out _ (bdrew (Below.refl _ _))).mono ?_
          rintro e w1 ⟨v1, rfl, ho1, hb1'⟩
          refine ⟨_, rfl, ?_⟩
          have hs1 := hb1'.size
          have HB1 := Lib.hid (HBX.out _ hb1')
          have HV1 := Lib.hid (Kd.R_below HVq.out hb1')
          have HP1 := Lib.hid ho1
          obtain ⟨A1, c1, rfl, hc1, hC1⟩ := Kd.R_reads ho1
          clear ho1 hC1 hHeld
          refine hK.out _ _ HB1.out (fun hHeld => ?_)
          refine norm_ (a' := ?_) ?_ ?_
          rotate_left
          · show Act.put _ (some 62) _ = _
            simp only [Act.put, List.setIfInBounds_toArray, List.set_cons_zero, List.set_cons_succ, i64_w, i32_w]
            rfl
          refine one_ (i := 4) (N := some 63) (bw 8 31) rfl rfl (by kernel_rfl) (by decide) (fun K hK => ?_)
          refine value_ (w1 := ?_) (v := ?_) (by rfl) rfl ?_ ?_
          rotate_left 2
          · go_simp
            constructor
            · rfl
            · rfl
          refine hK.out _ _ (HBX.out _ (below_alloc hb1' (.cells #[.string x.name, .int .u8 x.kind, .string x.data, .slice A1 x.files.length c1] 25))) (fun hHeld => ?_)
          refine norm_ (a' := ?_) ?_ ?_
          rotate_left
          · show Act.put _ (some 63) _ = _
            simp only [Act.put, List.setIfInBounds_toArray, List.set_cons_zero, List.set_cons_succ, i64_w, i32_w]
            rfl
          refine one_ (i := 5) (N := some 64) (bw 8 63) rfl rfl (by kernel_rfl) (by decide) (fun K hK => ?_)
          refine Kd.R_append_step FileK (w0 := w1) 0 (by rfl) (.tmp 60) (.tmp 63) 23 25 (.agg #[(.string ⟨#[]⟩), (.int .u8 0), (.string ⟨#[]⟩), (.slice none 0 0)]) 64 rfl Tryd.underlying23 info_file rfl (by decide) (by omega) v out x [.string x.name, .int .u8 x.kind, .string x.data, .slice A1 x.files.length c1] (fun j => okf j ∨ w.heap.size + 4 ≤ j) (fun j => okf j ∨ Wq.heap.size ≤ j) rfl rfl ?aP ?aK ?aF ?aO ?aB ?aS ?aL ?_
          case aP => exact file_mkM _ _ _ x HP1.out
          case aK => exact fun j hj => ⟨hj.imp id fun h => by omega, fun e => by
            have h1 := HVO.out j e.symm
            have h2 := Kd.R_lt HVq.out j e.symm
            rcases hj with h | h
            · have := HOKF.out j h
              omega
            · omega⟩
          case aF => exact fun j hj => .inr (by omega)
          case aO => exact HV1.out
          case aB => exact Below.refl _ _
          case aS => exact Nat.zero_le _
          case aL => omega
          intro v2 w2 ho2 hb2 hg2 hat2
          have hs2 := hg2.size
          have HVO2 : Hid (∀ j, v2.ownBlock = some j → w.heap.size + 4 ≤ j) := Lib.hid fun j hj => by
            rcases hat2 with h | ⟨b, h, hle⟩
            · exact HVO.out j (h ▸ hj)
            · rw [h] at hj
              injection hj with hj
              omega
          have hne : ∀ j, j < w.heap.size + 4 ∨ j = bx → some j ≠ v.ownBlock := fun j hj e => by
            have h1 := HVO.out j e.symm
            rcases hj with h | h
            · omega
            · exact HBV.out j e.symm h
          have HG3 := Lib.hid ((hg2.block (w.heap.size + 3) (by omega) (hne _ (.inl (by omega)))).trans HB1.out.1)
          have HGX := Lib.hid ((hg2.block bx (by omega) (hne _ (.inr rfl))).trans HB1.out.2.1)
          have HG1 := Lib.hid ((hg2.block (w.heap.size + 1) (by omega) (hne _ (.inl (by omega)))).trans HB1.out.2.2)
          have HG2 := Lib.hid ((hg2.block (w.heap.size + 2) (by omega) (hne _ (.inl (by omega)))).trans ((hb1'.block (w.heap.size + 2) (by omega)).trans HN2q.out))
          have hbw2 : Below w.heap.size w w2 := (bstep hbq hbq.size hb1').grown hg2 (Nat.le_trans hbq.size hb1'.size) (fun r e => by have := HVO.out r e; omega)
          have HO2 := Lib.hid ho2
          obtain ⟨A2, c2, rfl, hc2, hC2⟩ := Kd.R_reads ho2
          clear ho2 hC2 hHeld hne hat2
          generalize hol2 : (out ++ [x]).length = ol2 at *
          clear hol2
          refine hK.out _ _ ⟨HG3.out, HGX.out, HG1.out⟩ (fun hHeld => ?_)
          refine norm_ (a' := ?_) ?_ ?_
          rotate_left
          · show Act.put _ (some 64) _ = _
            simp only [Act.put, List.setIfInBounds_toArray, List.set_cons_zero, List.set_cons_succ, i64_w, i32_w]
            rfl
          refine pure_ (i := 6) (N := some 65) (v := ?_) (a' := ?_) (bw 8 127) rfl rfl (by kernel_rfl) (fun _ _ _ h => h) (Or.inl ⟨by rfl, ?_⟩) ?_ ?_
          rotate_left
          · intro w'
            go_simp
            with_reducible rfl
          rotate_left
          · simp only [Act.put, List.setIfInBounds_toArray, List.set_cons_zero, List.set_cons_succ, i64_w, i32_w]
            rfl
          refine last_ (i := 7) (N := none) (bw 8 255) rfl rfl (by kernel_rfl) (by decide) (fun K hK => ?_)
          have hcs : w2.cell? ⟨w.heap.size + 2 + 1, 3, none⟩ = some v := cell_of HG3.out rfl
          have hfs : w2.frozen? ⟨w.heap.size + 2 + 1, 3, none⟩ = false := unfr HG3.out 3
          refine skip_ (w1 := ?_) (by rfl) rfl ?_ ?_
          rotate_left
          · go_simp
            rfl
          refine hK.out _ _ ?_
          refine done_ (by kernel_rfl) ?_
          have HN3' := Lib.hid (blk_put (cs := #[.string t.name, .int .u8 t.kind, .string t.data, v]) HG3.out 3 (.slice A2 ol2 c2) rfl)
          have HON := Lib.hid (Kd.R_far (p := ⟨w.heap.size + 3, 3, none⟩) HO2.out (fun j hj => by
            rcases hj with h | h
            · have := HOKF.out j h
              simp only
              omega
            · simp only
              omega) (.slice A2 ol2 c2))
          go_wp2_with fail
          go_roundw
          case rel => exact ⟨k + 1, put, _, out ++ [x], by omega, rfl, by go_num, trivial, hbw2.setCell (p := ⟨w.heap.size + 3, 3, none⟩) (by simp only; omega) _, Lib.hid ((Below.heap_setCell _ _ _ _ (by simp only; omega)).trans HG1.out), Lib.hid ((Below.heap_setCell _ _ _ _ (by simp only; omega)).trans HG2.out), HN3', HON, HVO2, by simp only [List.length_append, List.length_cons, List.length_nil]; omega, Lib.hid (by rw [HZ.out, HCH0.out hnm]; simp)⟩
          case measure => simp [RowKit.intOf]; omega
        · have q1 : (x.name.toList == n.toList) = true := hnm
          have q2 : (x.name.toList != n.toList) = false := by rw [bne, q1]; rfl
          go_wp2_with fail
          go_quiet (fail)
          have hb9 := bdrewN (Below.refl Wt.heap.size Wt) nq
          have hbq := bstep hbt hbt.size hb9
          have HN1q := Lib.hid ((hb9.block _ (blk_lt HN1t.out)).trans HN1t.out)
          have HN2q := Lib.hid ((hb9.block _ (blk_lt HN2t.out)).trans HN2t.out)
          have HN3q := Lib.hid ((hb9.block _ (blk_lt HN3t.out)).trans HN3t.out)
          have HXBq := Lib.hid ((hb9.block _ (blk_lt HXBt.out)).trans HXBt.out)
          have HVq := Lib.hid (Kd.R_below HVt.out hb9)
          clear HN1t HN2t HN3t HXBt HVt x0 hpn hbt hb9
          generalize Wt.drewN nq = Wq at *
          go_wp2_with fail
          have HBX : Hid (∀ W, Below Wq.heap.size Wq W → W.heap[w.heap.size + 3]? = some (.cells #[.string t.name, .int .u8 t.kind, .string t.data, v] 25 (0, 0)) ∧ W.heap[bx]? = some (.cells #[.string x.name, .int .u8 x.kind, .string x.data, .slice A' x.files.length c'] 25 (0, 0)) ∧ W.heap[w.heap.size + 1]? = some (.cells #[.string f.name, .int .u8 f.kind, .string f.data, .slice Af f.files.length cf] 25 (0, 0))) := Lib.hid fun W h =>
            ⟨(h.block _ (blk_lt HN3q.out)).trans HN3q.out, (h.block _ (blk_lt HXBq.out)).trans HXBq.out, (h.block _ (blk_lt HN1q.out)).trans HN1q.out⟩
          have hz1 := blk_lt HN1q.out
          have hz2 := blk_lt HN2q.out
          have hz3 := blk_lt HN3q.out
          have hzx := blk_lt HXBq.out
          have HWI := Lib.hid (HWTH.out Wq hbq)
          refine start_ (n := 12) (S := fun w' => w'.heap[w.heap.size + 3]? = some (.cells #[.string t.name, .int .u8 t.kind, .string t.data, v] 25 (0, 0)) ∧ w'.heap[bx]? = some (.cells #[.string x.name, .int .u8 x.kind, .string x.data, .slice A' x.files.length c'] 25 (0, 0)) ∧ w'.heap[w.heap.size + 1]? = some (.cells #[.string f.name, .int .u8 f.kind, .string f.data, .slice Af f.files.length cf] 25 (0, 0))) (ds := [11]) (bw 12 0) (by kernel_rfl) rfl rfl (HBX.out _ (bdrew (Below.refl _ _))) (fun hHeld => ?_)
          refine pure_ (i := 0) (N := some 70) (v := ?_) (a' := ?_) (bw 12 1) rfl rfl (by kernel_rfl) (fun _ _ _ h => h) (Or.inl ⟨by rfl, ?_⟩) ?_ ?_
          rotate_left
          · intro w'
            go_simp
            with_reducible rfl
          rotate_left
          · simp only [Act.put, List.setIfInBounds_toArray, List.set_cons_zero, List.set_cons_succ, i64_w, i32_w]
            rfl
          refine pure_ (i := 3) (N := some 73) (v := ?_) (a' := ?_) (bw 12 9) rfl rfl (by kernel_rfl) (fun _ _ _ h => h) (Or.inl ⟨by rfl, ?_⟩) ?_ ?_
          rotate_left
          · intro w'
            go_simp
            with_reducible rfl
          rotate_left
          · simp only [Act.put, List.setIfInBounds_toArray, List.set_cons_zero, List.set_cons_succ, i64_w, i32_w]
            rfl
          refine pure_ (i := 4) (N := some 74) (v := ?_) (a' := ?_) (bw 12 25) rfl rfl (by kernel_rfl) (fun _ _ _ h => h) (Or.inl ⟨by rfl, ?_⟩) ?_ ?_
          rotate_left
          · intro w'
            go_simp
            with_reducible rfl
          rotate_left
          · simp only [Act.put, List.setIfInBounds_toArray, List.set_cons_zero, List.set_cons_succ, i64_w, i32_w]
            rfl
          refine pure_ (i := 6) (N := some 76) (v := ?_) (a' := ?_) (bw 12 89) rfl rfl (by kernel_rfl) (fun _ _ _ h => h) (Or.inl ⟨by rfl, ?_⟩) ?_ ?_
          rotate_left
          · intro w'
            go_simp
            with_reducible rfl
          rotate_left
          · simp only [Act.put, List.setIfInBounds_toArray, List.set_cons_zero, List.set_cons_succ, i64_w, i32_w]
            rfl
          refine take_ (i := 1) (N := some 71) (v := ?_) (a' := ?_) (bw 12 91) rfl rfl (by kernel_rfl) (fun _ _ _ h => h) (Or.inl ⟨by rfl, ?_⟩) hHeld ?_ ?_
          rotate_left
          · rintro w' ⟨s0, s1, s2⟩
            have q3 : w'.cell? ⟨w.heap.size + 2 + 1, 3, none⟩ = some v := cell_of (j := 3) s0 rfl
            go_simp
            with_reducible rfl
          rotate_left
          · simp only [Act.put, List.setIfInBounds_toArray, List.set_cons_zero, List.set_cons_succ, i64_w, i32_w]
            rfl
          refine take_ (i := 2) (N := some 72) (v := ?_) (a' := ?_) (bw 12 95) rfl rfl (by kernel_rfl) (fun _ _ _ h => h) (Or.inl ⟨by rfl, ?_⟩) hHeld ?_ ?_
          rotate_left
          · rintro w' ⟨s0, s1, s2⟩
            have q0 := cell_of (j := 0) s1 rfl
            have q1 := cell_of (j := 1) s1 rfl
            have q2 := cell_of (j := 2) s1 rfl
            have q3 := cell_of (j := 3) s1 rfl
            go_simp
            with_reducible rfl
          rotate_left
          · simp only [Act.put, List.setIfInBounds_toArray, List.set_cons_zero, List.set_cons_succ, i64_w, i32_w]
            rfl
          refine take_ (i := 5) (N := some 75) (v := ?_) (a' := ?_) (bw 12 127) rfl rfl (by kernel_rfl) (fun _ _ _ h => h) (Or.inl ⟨by rfl, ?_⟩) hHeld ?_ ?_
          rotate_left
          · rintro w' ⟨s0, s1, s2⟩
            have q0 := cell_of (j := 0) s2 rfl
            have q1 := cell_of (j := 1) s2 rfl
            have q2 := cell_of (j := 2) s2 rfl
            have q3 := cell_of (j := 3) s2 rfl
            go_simp
            with_reducible rfl
          rotate_left
          · simp only [Act.put, List.setIfInBounds_toArray, List.set_cons_zero, List.set_cons_succ, i64_w, i32_w]
            rfl
          refine one_ (i := 7) (N := some 77) (bw 12 255) rfl rfl (by kernel_rfl) (by decide) (fun K hK => ?_)
          refine goes_ Tryd.func52 (by kernel_rfl) rfl #[.agg #[.string x.name, .int .u8 x.kind, .string x.data, .slice A' x.files.length c'], .slice (some (pad.add 1)) p2.length (cp - 1), .agg #[.string f.name, .int .u8 f.kind, .string f.data, .slice Af f.files.length cf], .bool gone] (by rfl) rfl rfl (by simp only [List.map_toArray, List.map_cons, List.map_nil]; rfl) ?_
          refine (HWI.out _ (bdrew (Below.refl _ _))).mono ?_
          rintro e w1 ⟨v1, rfl, ho1, hb1'⟩
          refine ⟨_, rfl, ?_⟩
          have hs1 := hb1'.size
          have HB1 := Lib.hid (HBX.out _ hb1')
          have HV1 := Lib.hid (Kd.R_below HVq.out hb1')
          have HP1 := Lib.hid ho1
          obtain ⟨A1, c1, rfl, hc1, hC1⟩ := Kd.R_reads ho1
          clear ho1 hC1 hHeld
          refine hK.out _ _ HB1.out (fun hHeld => ?_)
          refine norm_ (a' := ?_) ?_ ?_
          rotate_left
          · show Act.put _ (some 77) _ = _
            simp only [Act.put, List.setIfInBounds_toArray, List.set_cons_zero, List.set_cons_succ, i64_w, i32_w]
            rfl
          refine one_ (i := 8) (N := some 78) (bw 12 511) rfl rfl (by kernel_rfl) (by decide) (fun K hK => ?_)
          refine value_ (w1 := ?_) (v := ?_) (by rfl) rfl ?_ ?_
          rotate_left 2
          · go_simp
            constructor
            · rfl
            · rfl
          refine hK.out _ _ (HBX.out _ (below_alloc hb1' (.cells #[.string x.name, .int .u8 x.kind, .string x.data, .slice A1 (withR gone f p2 x).files.length c1] 25))) (fun hHeld => ?_)
          refine norm_ (a' := ?_) ?_ ?_
          rotate_left
          · show Act.put _ (some 78) _ = _
            simp only [Act.put, List.setIfInBounds_toArray, List.set_cons_zero, List.set_cons_succ, i64_w, i32_w]
            rfl
          refine one_ (i := 9) (N := some 79) (bw 12 1023) rfl rfl (by kernel_rfl) (by decide) (fun K hK => ?_)
          refine Kd.R_append_step FileK (w0 := w1) 0 (by rfl) (.tmp 71) (.tmp 78) 23 25 (.agg #[(.string ⟨#[]⟩), (.int .u8 0), (.string ⟨#[]⟩), (.slice none 0 0)]) 64 rfl Tryd.underlying23 info_file rfl (by decide) (by omega) v out (withR gone f p2 x) [.string x.name, .int .u8 x.kind, .string x.data, .slice A1 (withR gone f p2 x).files.length c1] (fun j => okf j ∨ w.heap.size + 4 ≤ j) (fun j => okf j ∨ Wq.heap.size ≤ j) rfl rfl ?aP ?aK ?aF ?aO ?aB ?aS ?aL ?_
          case aP => exact (by have h := file_mkM _ _ _ (withR gone f p2 x) HP1.out; rw [(withR_keep gone f p2 x).1, (withR_keep gone f p2 x).2.1, (withR_keep gone f p2 x).2.2] at h; exact h)
          case aK => exact fun j hj => ⟨hj.imp id fun h => by omega, fun e => by
            have h1 := HVO.out j e.symm
            have h2 := Kd.R_lt HVq.out j e.symm
            rcases hj with h | h
            · have := HOKF.out j h
              omega
            · omega⟩
          case aF => exact fun j hj => .inr (by omega)
          case aO => exact HV1.out
          case aB => exact Below.refl _ _
          case aS => exact Nat.zero_le _
          case aL => omega
          intro v2 w2 ho2 hb2 hg2 hat2
          have hs2 := hg2.size
          have HVO2 : Hid (∀ j, v2.ownBlock = some j → w.heap.size + 4 ≤ j) := Lib.hid fun j hj => by
            rcases hat2 with h | ⟨b, h, hle⟩
            · exact HVO.out j (h ▸ hj)
            · rw [h] at hj
              injection hj with hj
              omega
          have hne : ∀ j, j < w.heap.size + 4 ∨ j = bx → some j ≠ v.ownBlock := fun j hj e => by
            have h1 := HVO.out j e.symm
            rcases hj with h | h
            · omega
            · exact HBV.out j e.symm h
          have HG3 := Lib.hid ((hg2.block (w.heap.size + 3) (by omega) (hne _ (.inl (by omega)))).trans HB1.out.1)
          have HGX := Lib.hid ((hg2.block bx (by omega) (hne _ (.inr rfl))).trans HB1.out.2.1)
          have HG1 := Lib.hid ((hg2.block (w.heap.size + 1) (by omega) (hne _ (.inl (by omega)))).trans HB1.out.2.2)
          have HG2 := Lib.hid ((hg2.block (w.heap.size + 2) (by omega) (hne _ (.inl (by omega)))).trans ((hb1'.block (w.heap.size + 2) (by omega)).trans HN2q.out))
          have hbw2 : Below w.heap.size w w2 := (bstep hbq hbq.size hb1').grown hg2 (Nat.le_trans hbq.size hb1'.size) (fun r e => by have := HVO.out r e; omega)
          have HO2 := Lib.hid ho2
          obtain ⟨A2, c2, rfl, hc2, hC2⟩ := Kd.R_reads ho2
          clear ho2 hC2 hHeld hne hat2
          generalize hol2 : (out ++ [(withR gone f p2 x)]).length = ol2 at *
          clear hol2
          refine hK.out _ _ ⟨HG3.out, HGX.out, HG1.out⟩ (fun hHeld => ?_)
          refine norm_ (a' := ?_) ?_ ?_
          rotate_left
          · show Act.put _ (some 79) _ = _
            simp only [Act.put, List.setIfInBounds_toArray, List.set_cons_zero, List.set_cons_succ, i64_w, i32_w]
            rfl
          refine pure_ (i := 10) (N := some 80) (v := ?_) (a' := ?_) (bw 12 2047) rfl rfl (by kernel_rfl) (fun _ _ _ h => h) (Or.inl ⟨by rfl, ?_⟩) ?_ ?_
          rotate_left
          · intro w'
            go_simp
            with_reducible rfl
          rotate_left
          · simp only [Act.put, List.setIfInBounds_toArray, List.set_cons_zero, List.set_cons_succ, i64_w, i32_w]
            rfl
          refine last_ (i := 11) (N := none) (bw 12 4095) rfl rfl (by kernel_rfl) (by decide) (fun K hK => ?_)
          have hcs : w2.cell? ⟨w.heap.size + 2 + 1, 3, none⟩ = some v := cell_of HG3.out rfl
          have hfs : w2.frozen? ⟨w.heap.size + 2 + 1, 3, none⟩ = false := unfr HG3.out 3
          refine skip_ (w1 := ?_) (by rfl) rfl ?_ ?_
          rotate_left
          · go_simp
            rfl
          refine hK.out _ _ ?_
          refine done_ (by kernel_rfl) ?_
          have HN3' := Lib.hid (blk_put (cs := #[.string t.name, .int .u8 t.kind, .string t.data, v]) HG3.out 3 (.slice A2 ol2 c2) rfl)
          have HON := Lib.hid (Kd.R_far (p := ⟨w.heap.size + 3, 3, none⟩) HO2.out (fun j hj => by
            rcases hj with h | h
            · have := HOKF.out j h
              simp only
              omega
            · simp only
              omega) (.slice A2 ol2 c2))
          go_wp2_with fail
          go_roundw
          case rel => exact ⟨k + 1, put, _, out ++ [withR gone f p2 x], by omega, rfl, by go_num, trivial, hbw2.setCell (p := ⟨w.heap.size + 3, 3, none⟩) (by simp only; omega) _, Lib.hid ((Below.heap_setCell _ _ _ _ (by simp only; omega)).trans HG1.out), Lib.hid ((Below.heap_setCell _ _ _ _ (by simp only; omega)).trans HG2.out), HN3', HON, HVO2, by simp only [List.length_append, List.length_cons, List.length_nil]; omega, Lib.hid (by rw [HZ.out, HCH1.out hnm]; simp)⟩
          case measure => simp [RowKit.intOf]; omega
    · obtain rfl : k = t.files.length := by omega
      have hz0 := HZ0.out
      rw [List.drop_length, withL] at hz0
      have HZ1 := Lib.hid hz0
      clear hlt HZ0 hz0 HI HPT
      have hpn := HPN.out wr hb
      obtain ⟨Av, cv, hv, hcv, _⟩ := Kd.R_reads HV.out
      subst hv
      by_cases hp2 : p2 = []
      · have l1 : lp = 1 := by rw [HLP.out, hp2]; rfl
        have HLS : Hid (p2.isEmpty = true) := Lib.hid (by rw [hp2]; rfl)
        subst l1
        cases put
        · cases gone
          · have hZe := HZ1.out
            rw [HLS.out] at hZe
            simp only [Bool.not_false, Bool.and_true, if_true] at hZe
            have HZE := Lib.hid hZe
            clear HZ1 hZe
            have hz1 := blk_lt HN1.out
            have hz2 := blk_lt HN2.out
            have hz3 := blk_lt HN3.out
            have o3 : wr.cell? ⟨w.heap.size + 2 + 1, 3, none⟩ = some (.slice Av out.length cv) := cell_of HN3.out rfl
            have f0 : wr.cell? ⟨w.heap.size + 1, 0, none⟩ = some (.string f.name) := cell_of HN1.out rfl
            have f1 : wr.cell? ⟨w.heap.size + 1, 1, none⟩ = some (.int .u8 f.kind) := cell_of HN1.out rfl
            have f2 : wr.cell? ⟨w.heap.size + 1, 2, none⟩ = some (.string f.data) := cell_of HN1.out rfl
            have f3 : wr.cell? ⟨w.heap.size + 1, 3, none⟩ = some (.slice Af f.files.length cf) := cell_of HN1.out rfl
            go_wp2_with (at_builtin; refine Kd.R_append FileK (w0 := wr) 0 rfl (.tmp 94) (.tmp 96) 23 25 (.agg #[(.string ⟨#[]⟩), (.int .u8 0), (.string ⟨#[]⟩), (.slice none 0 0)]) 64 rfl Tryd.underlying23 info_file rfl (by decide) (by omega) (.slice Av out.length cv) out f [.string f.name, .int .u8 f.kind, .string f.data, .slice Af f.files.length cf] (fun j => okf j ∨ w.heap.size + 4 ≤ j) okf rfl rfl ?aP ?aK ?aF ?aO ?aB ?aS ?aL ?_; (case aP => exact file_mkM _ _ _ f (HFR.out wr hb)); (case aK => exact fun j hj => ⟨.inl hj, fun e => by have h1 := HVO.out j e.symm; have := HOKF.out j hj; omega⟩); (case aF => exact fun j hj => .inr (by omega)); (case aO => exact HV.out); (case aB => exact Below.refl _ _); (case aS => exact Nat.zero_le _); (case aL => omega); intro v2 w2 ho2 hb2 hg2 hat2; have HVO2 : Hid (∀ j, v2.ownBlock = some j → w.heap.size + 4 ≤ j) := Lib.hid (fun j hj => hat2.elim (fun h => HVO.out j (h ▸ hj)) (fun ⟨b, h, hle⟩ => by rw [h] at hj; injection hj with hj; omega)); have hne : ∀ j, j < w.heap.size + 4 → some j ≠ (Value.slice Av out.length cv).ownBlock := (fun j hj e => by have h1 := HVO.out j e.symm; omega); have HG3 := Lib.hid ((hg2.block (w.heap.size + 3) (by omega) (hne _ (by omega))).trans HN3.out); have HG1 := Lib.hid ((hg2.block (w.heap.size + 1) (by omega) (hne _ (by omega))).trans HN1.out); have HG2 := Lib.hid ((hg2.block (w.heap.size + 2) (by omega) (hne _ (by omega))).trans HN2.out); have hbw2 : Below w.heap.size w w2 := hb.grown hg2 hb.size (fun r e => by have := HVO.out r e; omega); have HO2 := Lib.hid ho2; have hcs : w2.cell? ⟨w.heap.size + 2 + 1, 3, none⟩ = some (.slice Av out.length cv) := cell_of HG3.out rfl; have hfs : w2.frozen? ⟨w.heap.size + 2 + 1, 3, none⟩ = false := unfr HG3.out 3; obtain ⟨A2, c2, rfl, hc2, hC2⟩ := Kd.R_reads ho2; clear ho2 hC2 hne hat2 o3 f0 f1 f2 f3; (generalize hol2 : (out ++ [f]).length = ol2 at *); clear hol2; have HN2e := Lib.hid ((Below.heap_setCell w2 ⟨w.heap.size + 3, 3, none⟩ (.slice A2 ol2 c2) (w.heap.size + 2) (by simp only; omega)).trans HG2.out); have HN3e := Lib.hid (blk_put (cs := #[.string t.name, .int .u8 t.kind, .string t.data, (.slice Av out.length cv)]) HG3.out 3 (.slice A2 ol2 c2) rfl); have hbe := hbw2.setCell (p := ⟨w.heap.size + 3, 3, none⟩) (by simp only; omega) (.slice A2 ol2 c2); have e0 := cell_of (j := 0) HN3e.out rfl; have e1 := cell_of (j := 1) HN3e.out rfl; have e2 := cell_of (j := 2) HN3e.out rfl; have e3 := cell_of (j := 3) HN3e.out rfl; have d0 := cell_of (j := 0) HN2e.out rfl; have d1 := cell_of (j := 1) HN2e.out rfl; have d2 := cell_of (j := 2) HN2e.out rfl; have d3 := cell_of (j := 3) HN2e.out rfl; have u0 := unfr HN2e.out 0; have u1 := unfr HN2e.out 1; have u2 := unfr HN2e.out 2; have u3 := unfr HN2e.out 3)
            have HVe := Lib.hid (Kd.R_far (p := ⟨w.heap.size + 3, 3, none⟩) HO2.out (fun j hj => by
              rcases hj with h | h
              · have := HOKF.out j h
                simp only
                omega
              · simp only
                omega) (.slice A2 ol2 c2))
            have HH := Lib.hid (store4_box HN2e.out (.string t.name) (.int .u8 t.kind) (.string t.data) (.slice A2 ol2 c2))
            have HBL := Lib.hid (store4_below hbe (Nat.le_add_right w.heap.size 2) (.string t.name) (.int .u8 t.kind) (.string t.data) (.slice A2 ol2 c2))
            have HRF := Lib.hid (Kd.R_mono (Kd.R_step (w1 := (((((w2.setCell ⟨w.heap.size + 3, 3, none⟩ (.slice A2 ol2 c2)).setCell ⟨w.heap.size + 2, 0, none⟩ (.string t.name)).setCell ⟨w.heap.size + 2, 1, none⟩ (.int .u8 t.kind)).setCell ⟨w.heap.size + 2, 2, none⟩ (.string t.data)).setCell ⟨w.heap.size + 2, 3, none⟩ (.slice A2 ol2 c2))) HVe.out fun j hj _ => store4_other _ (by
              rcases hj with h | h
              · have := HOKF.out j h
                omega
              · omega) _ _ _ _) (ok' := fun j => okf j ∨ w.heap.size ≤ j) fun j hj => hj.imp id fun h => by omega)
            refine bodyPost_ret (results_cell_row rfl _ _ (w.heap.size + 2) 25 #[.string t.name, .int .u8 t.kind, .string t.data, .slice A2 ol2 c2] (0, 0) _ rfl HH.out Tryd.underlying25 rfl (by kernel_rfl)) rfl ?_
            exact ⟨_, rfl, (by rw [HZE.out]; exact HRF.out), HBL.out⟩
          · have hZe := HZ1.out
            simp only [Bool.not_true, Bool.and_false, Bool.false_eq_true, if_false, List.append_nil] at hZe
            have HZE := Lib.hid hZe
            clear HZ1 hZe
            have e0 := cell_of (j := 0) HN3.out rfl
            have e1 := cell_of (j := 1) HN3.out rfl
            have e2 := cell_of (j := 2) HN3.out rfl
            have e3 := cell_of (j := 3) HN3.out rfl
            have d0 := cell_of (j := 0) HN2.out rfl
            have d1 := cell_of (j := 1) HN2.out rfl
            have d2 := cell_of (j := 2) HN2.out rfl
            have d3 := cell_of (j := 3) HN2.out rfl
            have u0 := unfr HN2.out 0
            have u1 := unfr HN2.out 1
            have u2 := unfr HN2.out 2
            have u3 := unfr HN2.out 3
            have HH := Lib.hid (store4_box HN2.out (.string t.name) (.int .u8 t.kind) (.string t.data) (.slice Av out.length cv))
            have HBL := Lib.hid (store4_below hb (Nat.le_add_right w.heap.size 2) (.string t.name) (.int .u8 t.kind) (.string t.data) (.slice Av out.length cv))
            have HRF := Lib.hid (Kd.R_mono (Kd.R_step (w1 := ((((wr.setCell ⟨w.heap.size + 2, 0, none⟩ (.string t.name)).setCell ⟨w.heap.size + 2, 1, none⟩ (.int .u8 t.kind)).setCell ⟨w.heap.size + 2, 2, none⟩ (.string t.data)).setCell ⟨w.heap.size + 2, 3, none⟩ (.slice Av out.length cv))) HV.out fun j hj _ => store4_other _ (by
              rcases hj with h | h
              · have := HOKF.out j h
                omega
              · omega) _ _ _ _) (ok' := fun j => okf j ∨ w.heap.size ≤ j) fun j hj => hj.imp id fun h => by omega)
            go_wp2_with fail
            refine bodyPost_ret (results_cell_row rfl _ _ (w.heap.size + 2) 25 #[.string t.name, .int .u8 t.kind, .string t.data, .slice Av out.length cv] (0, 0) _ rfl HH.out Tryd.underlying25 rfl (by kernel_rfl)) rfl ?_
            exact ⟨_, rfl, (by rw [HZE.out]; exact HRF.out), HBL.out⟩
        · have hZe := HZ1.out
          simp only [Bool.not_true, Bool.and_false, Bool.false_and, Bool.false_eq_true, if_false, List.append_nil] at hZe
          have HZE := Lib.hid hZe
          clear HZ1 hZe
          have e0 := cell_of (j := 0) HN3.out rfl
          have e1 := cell_of (j := 1) HN3.out rfl
          have e2 := cell_of (j := 2) HN3.out rfl
          have e3 := cell_of (j := 3) HN3.out rfl
          have d0 := cell_of (j := 0) HN2.out rfl
          have d1 := cell_of (j := 1) HN2.out rfl
          have d2 := cell_of (j := 2) HN2.out rfl
          have d3 := cell_of (j := 3) HN2.out rfl
          have u0 := unfr HN2.out 0
          have u1 := unfr HN2.out 1
          have u2 := unfr HN2.out 2
          have u3 := unfr HN2.out 3
          have HH := Lib.hid (store4_box HN2.out (.string t.name) (.int .u8 t.kind) (.string t.data) (.slice Av out.length cv))
          have HBL := Lib.hid (store4_below hb (Nat.le_add_right w.heap.size 2) (.string t.name) (.int .u8 t.kind) (.string t.data) (.slice Av out.length cv))
          have HRF := Lib.hid (Kd.R_mono (Kd.R_step (w1 := ((((wr.setCell ⟨w.heap.size + 2, 0, none⟩ (.string t.name)).setCell ⟨w.heap.size + 2, 1, none⟩ (.int .u8 t.kind)).setCell ⟨w.heap.size + 2, 2, none⟩ (.string t.data)).setCell ⟨w.heap.size + 2, 3, none⟩ (.slice Av out.length cv))) HV.out fun j hj _ => store4_other _ (by
            rcases hj with h | h
            · have := HOKF.out j h
              omega
            · omega) _ _ _ _) (ok' := fun j => okf j ∨ w.heap.size ≤ j) fun j hj => hj.imp id fun h => by omega)
          go_wp2_with fail
          refine bodyPost_ret (results_cell_row rfl _ _ (w.heap.size + 2) 25 #[.string t.name, .int .u8 t.kind, .string t.data, .slice Av out.length cv] (0, 0) _ rfl HH.out Tryd.underlying25 rfl (by kernel_rfl)) rfl ?_
          exact ⟨_, rfl, (by rw [HZE.out]; exact HRF.out), HBL.out⟩
      · have hp3 := List.length_pos_iff.2 hp2
        have l1 : ((lp : Int) == 1) = false := by have := HLP.out; rw [beq_eq_false_iff_ne]; omega
        have hZe := HZ1.out
        rw [show p2.isEmpty = false by cases p2 with | nil => exact absurd rfl hp2 | cons a b => rfl] at hZe
        simp only [Bool.false_and, Bool.false_eq_true, if_false, List.append_nil] at hZe
        have HZE := Lib.hid hZe
        clear HZ1 hZe
        have e0 := cell_of (j := 0) HN3.out rfl
        have e1 := cell_of (j := 1) HN3.out rfl
        have e2 := cell_of (j := 2) HN3.out rfl
        have e3 := cell_of (j := 3) HN3.out rfl
        have d0 := cell_of (j := 0) HN2.out rfl
        have d1 := cell_of (j := 1) HN2.out rfl
        have d2 := cell_of (j := 2) HN2.out rfl
        have d3 := cell_of (j := 3) HN2.out rfl
        have u0 := unfr HN2.out 0
        have u1 := unfr HN2.out 1
        have u2 := unfr HN2.out 2
        have u3 := unfr HN2.out 3
        have HH := Lib.hid (store4_box HN2.out (.string t.name) (.int .u8 t.kind) (.string t.data) (.slice Av out.length cv))
        have HBL := Lib.hid (store4_below hb (Nat.le_add_right w.heap.size 2) (.string t.name) (.int .u8 t.kind) (.string t.data) (.slice Av out.length cv))
        have HRF := Lib.hid (Kd.R_mono (Kd.R_step (w1 := ((((wr.setCell ⟨w.heap.size + 2, 0, none⟩ (.string t.name)).setCell ⟨w.heap.size + 2, 1, none⟩ (.int .u8 t.kind)).setCell ⟨w.heap.size + 2, 2, none⟩ (.string t.data)).setCell ⟨w.heap.size + 2, 3, none⟩ (.slice Av out.length cv))) HV.out fun j hj _ => store4_other _ (by
          rcases hj with h | h
          · have := HOKF.out j h
            omega
          · omega) _ _ _ _) (ok' := fun j => okf j ∨ w.heap.size ≤ j) fun j hj => hj.imp id fun h => by omega)
        go_wp2_with fail
        refine bodyPost_ret (results_cell_row rfl _ _ (w.heap.size + 2) 25 #[.string t.name, .int .u8 t.kind, .string t.data, .slice Av out.length cv] (0, 0) _ rfl HH.out Tryd.underlying25 rfl (by kernel_rfl)) rfl ?_
        exact ⟨_, rfl, (by rw [HZE.out]; exact HRF.out), HBL.out⟩
end Go.Proofs.YtdnhjnlhmfajnaaDoor.G
