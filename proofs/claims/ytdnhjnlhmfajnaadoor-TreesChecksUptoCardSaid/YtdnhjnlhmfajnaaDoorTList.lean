/- paddockref03.List: every file with its path. -/
import Derived.Test.YtdnhjnlhmfajnaaDoorTLine
import Derived.Test.YtdnhjnlhmfajnaaDoorTRight
import Derived.Test.YtdnhjnlhmfajnaaDoorTReadA
namespace Go.Proofs.YtdnhjnlhmfajnaaDoor.G
open Go.RowKit Go.Lib Go.Proofs.YtdnhjnlhmfajnaaDoorW.PrintWords Go.Proofs.YtdnhjnlhmfajnaaDoorW.PrintLast
set_option linter.unusedVariables false

def KeptK : Kd (List ByteArray × (Int × Int)) := Kd.pair (Kd.slice 9 Kd.string) (Kd.pair (Kd.int .u8) (Kd.int .i64))
def keptE (y : List ByteArray × File) : List ByteArray × (Int × Int) := (y.1, (y.2.kind, (y.2.data.size : Int)))
def keptL (p : List ByteArray) (f : File) : List (List ByteArray × (Int × Int)) := (preF p f).map keptE
theorem info_kept : (Tryd.prog.info? 85).map (fun i => (i.zero, i.size, i.bytes)) = some (some (.agg #[.slice none 0 0, .int .u8 0, .int .i64 0]), 3, 40) := by kernel_rfl
theorem kept_mkM {w : World} {base : Nat} {ok : Nat → Prop} {v : Value} {q : List ByteArray} (k s : Int) (h : Kd.R Kd.string 9 w base ok v q) : KeptK.M w base ok (q, (k, s)) [v, .int .u8 k, .int .i64 s] :=
  ⟨[v], [.int .u8 k, .int .i64 s], rfl, ⟨v, rfl, h⟩, ⟨[.int .u8 k], [.int .i64 s], rfl, rfl, rfl⟩⟩

set_option maxHeartbeats 8000000 in
set_option maxRecDepth 100000 in
theorem listed_calls : ∀ (n : Nat) (f : File) (A : Option Addr) (c : Nat) (Ap : Option Addr) (cp : Nat) (p : List ByteArray) (w : World), f.bulk ≤ n → p.length + f.bulk ≤ 4294967296 → FileK.C w A f.files.length f.files → f.files.length ≤ c → Kd.C Kd.string w Ap p.length p → p.length ≤ cp →
    Calls Tryd.prog 46 #[fileV f A c, .slice Ap p.length cp] w fun e w' => ∃ v, e = .returned v ∧ KeptK.R 85 w' w.heap.size (fun _ => True) v (keptL p f) ∧ Below w.heap.size w w' := by
  intro n
  induction n with
  | zero => intro f A c Ap cp p w h; have := bulk_eq f; omega
  | succ n ih =>
  intro f A c Ap cp p w hn hbk hr hc hp hcp
  have HI := Lib.hid (fun (x : File) A c Ap cp p W h1 h2 => ih x A c Ap cp p W h1 h2)
  clear ih
  have hlen := bulkL_len f.files
  have hbe := bulk_eq f
  have hcnt := preL_count f.files p
  have HR := Lib.hid hr
  have HP := Lib.hid hp
  have HN' : ∀ x ∈ f.files, x.bulk ≤ n ∧ p.length + 1 + x.bulk ≤ 4294967296 := fun x hx => by have := bulk_child hx; omega
  have hpl : p.length ≤ 4294967296 := by omega
  have hal' : f.files.length ≤ 4294967296 := by omega
  have hct' : (preL p f.files).length ≤ 4294967296 := by omega
  have hE : keptL p f = (preL p f.files).map keptE := by rw [keptL, preF_eq]
  rw [hE]
  clear hr hp hE
  obtain ⟨an, ak, ad, af⟩ := f
  change af.length ≤ c at hc
  change Hid (FileK.C w A af.length af) at HR
  have hal : af.length ≤ 4294967296 := hal'
  have HN : Hid (∀ x ∈ af, x.bulk ≤ n ∧ p.length + 1 + x.bulk ≤ 4294967296) := Lib.hid HN'
  have HCT : Hid ((preL p af).length ≤ 4294967296) := Lib.hid hct'
  show Calls _ _ _ _ fun e w' => ∃ v, e = .returned v ∧ KeptK.R 85 w' w.heap.size (fun _ => True) v ((preL p af).map keptE) ∧ Below w.heap.size w w'
  clear hbe hlen hn hbk hal' HN' hcnt hct'
  go_enter Tryd.func46, Tryd.ntmps46
  unfold fileV
  go_wp2_with fail
  go_loopw [5, 12] (fun vo vi wr => ∃ (k : Nat) (v : Value), v = vo ∧ k ≤ af.length ∧ vi = .int .i64 k ∧ Below w.heap.size w wr ∧ Hid (KeptK.R 85 wr w.heap.size (fun _ => True) v ((preL p (af.take k)).map keptE))) (fun _ vi _ => af.length - (RowKit.intOf vi).toNat)
  case atStart => exact ⟨0, _, rfl, by omega, rfl, below_alloc (Below.refl _ _) _, Lib.hid (Kd.R_nil _ _ _ _ _)⟩
  case round =>
    obtain ⟨k, v, rfl, hk, rfl, hb, HV⟩ := hrel
    have hsz := hb.size
    by_cases hlt : k < af.length
    · obtain ⟨aad, A', c', rfl, p1, p2, p3, p4, hc', hC'⟩ := file_at HR.out k hlt
      have mv : ∀ {p : Addr} {v : Value}, w.cell? p = some v → wr.cell? p = some v := fun h => (hb.cell (World.block_lt_of_cell? w _ h)).trans h
      have p1' := mv p1
      have p2' := mv p2
      have p3' := mv p3
      have p4' := mv p4
      have hmem := HN.out _ (List.getElem_mem hlt)
      have hct := HCT.out
      have htk := preL_take (p := p) hlt
      have hcl : (preL p (af.take (k + 1))).length ≤ 4294967296 := by
        have h : (preL p af).length = (preL p (af.take (k + 1))).length + (preL p (af.drop (k + 1))).length := by
          rw [← List.length_append, ← preL_append, List.take_append_drop]
        omega
      have hmp := congrArg (List.map keptE) htk
      rw [List.map_append, List.map_cons] at hmp
      have hol : ((preL p (af.take k)).map keptE).length + 1 ≤ 4294967296 ∧ ((preL p (af.take (k + 1))).map keptE).length ≤ 4294967296 := by
        rw [List.length_map, List.length_map]
        rw [htk] at hcl ⊢
        simp only [List.length_append, List.length_cons] at hcl ⊢
        omega
      obtain ⟨out, hout⟩ : ∃ out, (preL p (af.take k)).map keptE = out := ⟨_, rfl⟩
      rw [hout] at hol hmp HV
      have HOL := Lib.hid hol
      have HMP := Lib.hid hmp
      have HX := Lib.hid hC'
      have HMEM := Lib.hid hmem
      clear p1 p2 p3 p4 mv hmem hC' htk hcl hct hmp hol hout
      generalize af[k] = x at *
      have g1 : (k : Int) < (af.length : Int) := by omega
      have hbx := below_alloc (Below.refl wr.heap.size wr) (.cells #[.string x.name, .int .u8 x.kind, .string x.data, .slice A' x.files.length c'] 25)
      have hnb := blk_new wr (.cells #[.string x.name, .int .u8 x.kind, .string x.data, .slice A' x.files.length c'] 25)
      have hzx : wr.heap.size < (wr.alloc (.cells #[.string x.name, .int .u8 x.kind, .string x.data, .slice A' x.files.length c'] 25)).heap.size := by simp
      go_wp2_with fail
      clear p1' p2' p3' p4'
      generalize wr.alloc (.cells #[.string x.name, .int .u8 x.kind, .string x.data, .slice A' x.files.length c'] 25) = W1 at *
      have hbw1 := bstep hb hsz hbx
      refine (longer_calls Ap cp p x.name W1 (Kd.C_below HP.out (bstep (Below.refl w.heap.size w) (Nat.le_refl _) hbw1)) hcp (by omega)).mono ?_
      rintro e w2 ⟨vq, rfl, hq, hb2⟩
      obtain ⟨q, hqe⟩ : ∃ q, p ++ [x.name] = q := ⟨_, rfl⟩
      have HQL : Hid (q.length = p.length + 1) := Lib.hid (by rw [← hqe]; simp)
      have hmp := HMP.out
      change _ = out ++ (p ++ [x.name], (x.kind, (x.data.size : Int))) :: List.map keptE (preF (p ++ [x.name]) x) at hmp
      rw [hqe] at hq hmp
      have HM2 := Lib.hid hmp
      clear hmp HMP
      clear hqe
      have hs2 := hb2.size
      have hs1 := hbx.size
      have hbw2 := bstep hbw1 hbw1.size hb2
      have HV2 := Lib.hid (Kd.R_below (Kd.R_below HV.out hbx) hb2)
      have HVL := Lib.hid (Kd.R_lt HV.out)
      have HQ := Lib.hid hq
      have HB2 := Lib.hid ((hb2.block wr.heap.size (by omega)).trans hnb)
      obtain ⟨Aq, cq, rfl, hcq, _⟩ := Kd.R_reads hq
      obtain ⟨Av, cv, rfl, hcv, _⟩ := Kd.R_reads HV.out
      have y0 := cell_of (j := 0) HB2.out rfl
      have y1 := cell_of (j := 1) HB2.out rfl
      have y2 := cell_of (j := 2) HB2.out rfl
      have y3 := cell_of (j := 3) HB2.out rfl
      have hds : x.data.size ≤ 4294967296 := by have := bulk_eq x; have := HMEM.out; omega
      have hl1 := HOL.out.1
      clear hq hnb
      go_wp2_with (at_builtin; refine Kd.R_append KeptK (w0 := w) w.heap.size rfl (.tmp 20) (.tmp 28) 41 85 (.agg #[.slice none 0 0, .int .u8 0, .int .i64 0]) 40 rfl Tryd.underlying41 info_kept rfl (by decide) (by decide) _ out (q, (x.kind, (x.data.size : Int))) [.slice Aq q.length cq, .int .u8 x.kind, .int .i64 x.data.size] (fun _ => True) (fun k => W1.heap.size ≤ k) rfl rfl ?aP ?aK ?aF ?aO ?aB ?aS ?aL ?_; (case aP => exact kept_mkM _ _ (Kd.R_lower (Kd.R_mono (Kd.R_bound HQ.out) fun j hj => hj.2.1) (by omega))); (case aK => exact fun j hj => ⟨trivial, fun e => by have := HVL.out j e.symm; omega⟩); (case aF => exact fun _ _ => trivial); (case aO => exact HV2.out); (case aB => exact hbw2); (case aS => exact hbw2.size); (case aL => omega); intro v3 w3 ho3 hb3 hg3 hat3; have HB3 := Lib.hid ((hg3.block wr.heap.size (by omega) (fun e => by have := HVL.out _ e.symm; omega)).trans HB2.out); have HO3 := Lib.hid ho3; have HQ3 := Lib.hid (R_onlyG (Kd.R_mono (Kd.R_bound HQ.out) (ok' := fun j => W1.heap.size ≤ j ∧ j < w2.heap.size) fun j hj => ⟨hj.2.1, hj.2.2.1⟩) (Only.grown_of hg3) (fun k hk h => by have := HVL.out k h; omega)); have z0 := cell_of (j := 0) HB3.out rfl; have z1 := cell_of (j := 1) HB3.out rfl; have z2 := cell_of (j := 2) HB3.out rfl; have z3 := cell_of (j := 3) HB3.out rfl; clear y0 y1 y2 y3 ho3)
      have hs3 := hg3.size
      refine (HI.out x A' c' Aq cq q w3 HMEM.out.1 (by have := HMEM.out.2; have := HQL.out; omega) (Kd.C_below HX.out hb3) hc' (Kd.R_reads' HQ3.out).2.2 hcq).mono ?_
      rintro e w4 ⟨v4, rfl, ho4, hb4⟩
      have hs4 := hb4.size
      have HV3L := Lib.hid (Kd.R_lt HO3.out)
      have HO4 := Lib.hid (Kd.R_below HO3.out hb4)
      have hbw4 := bstep hb3 hb3.size hb4
      obtain ⟨A3, c3, rfl, _, _⟩ := Kd.R_reads HO3.out
      have ho5 := Kd.R_lower (base' := w.heap.size) (Kd.R_mono (Kd.R_bound ho4) (ok' := fun j => w3.heap.size ≤ j) fun j hj => hj.2.1) (by have := hb3.size; omega)
      obtain ⟨A4, c4, rfl, hc4, HRR⟩ := ho5.2.reads
      have hll : (out ++ [(q, (x.kind, (x.data.size : Int)))]).length + (keptL q x).length ≤ 4294967296 := by
        have h := HOL.out.2
        rw [HM2.out] at h
        simp only [List.length_append, List.length_cons, List.length_nil] at h ⊢
        unfold keptL
        omega
      have HR4 := Lib.hid HRR
      clear ho4 ho5 HRR z0 z1 z2 z3
      generalize hkl : keptL q x = kl at *
      generalize hou : out ++ [(q, (x.kind, (x.data.size : Int)))] = out2 at *
      have HKL := Lib.hid hkl
      have HOU := Lib.hid hou
      clear hkl hou
      go_wp2_with (at_builtin; refine Kd.R_append_rows KeptK (w0 := w) w.heap.size rfl (.tmp 30) (.tmp 33) 41 85 (.agg #[.slice none 0 0, .int .u8 0, .int .i64 0]) 40 rfl Tryd.underlying41 info_kept rfl (by decide) (by decide) _ out2 kl A4 kl.length c4 (fun _ => True) (fun j => w3.heap.size ≤ j) rfl rfl ?aO HR4.out ?aM ?aK ?aF ?aB ?aS ?aL ?_; (case aO => exact HO4.out); (case aM => exact fun x cs h => KeptK.M_mono (fun j hj => hj.1) h); (case aK => exact fun j hj => ⟨trivial, fun e => by have := HV3L.out j e.symm; omega⟩); (case aF => exact fun _ _ => trivial); (case aB => exact hbw4); (case aS => exact hbw4.size); (case aL => omega); intro v5 w5 ho5 hb5 hg5 hat5; have HO5 := Lib.hid ho5; clear ho5)
      go_roundw
      case rel => exact ⟨k + 1, _, rfl, by omega, by go_num, hb5, Lib.hid (by
        rw [HM2.out]
        have h := HO5.out
        rw [← HOU.out, ← HKL.out, List.append_assoc] at h
        exact h)⟩
      case measure => simp [RowKit.intOf]; omega
    · obtain rfl : k = af.length := by omega
      have HV2 := HV.out
      rw [List.take_length] at HV2
      have HV3 := Lib.hid HV2
      clear HV2 hlt HI
      go_wp2_with fail
      go_ret
      exact ⟨_, rfl, HV3.out, hb⟩

set_option maxHeartbeats 4000000 in
set_option maxRecDepth 100000 in
theorem rlist_calls (f : File) (A : Option Addr) (c : Nat) (w : World) (hbk : f.bulk ≤ 4194304) (hr : FileK.C w A f.files.length f.files) (hc : f.files.length ≤ c) :
    Calls Tryd.prog 15 #[fileV f A c] w fun e w' => ∃ v, e = .returned (.tuple #[v, .int .i64 (if rightT f then 0 else 30)]) ∧ KeptK.R 85 w' w.heap.size (fun _ => True) v (if rightT f then keptL [] f else []) ∧ Below w.heap.size w w' := by
  have HB := Lib.hid (below_alloc (Below.refl w.heap.size w) (.cells #[.string f.name, .int .u8 f.kind, .string f.data, .slice A f.files.length c] 25))
  have hn := blk_new w (.cells #[.string f.name, .int .u8 f.kind, .string f.data, .slice A f.files.length c] 25)
  have hz : w.heap.size < (w.alloc (.cells #[.string f.name, .int .u8 f.kind, .string f.data, .slice A f.files.length c] 25)).heap.size := by simp
  have HRT := Lib.hid (rright_calls f A c _ (by omega) (Kd.C_below hr HB.out) hc)
  have HLS := Lib.hid (fun W h => listed_calls f.bulk f A c none 0 [] W (Nat.le_refl _) (by simp only [List.length_nil]; omega) (Kd.C_below hr h) hc (Kd.C_nil Kd.string _) (Nat.le_refl 0))
  obtain ⟨rk, hrk⟩ : ∃ rk, (if rightT f then (0 : Int) else 30) = rk := ⟨_, rfl⟩
  obtain ⟨rl, hrl⟩ : ∃ rl, (if rightT f then keptL [] f else []) = rl := ⟨_, rfl⟩
  rw [hrk, hrl]
  have HRK := Lib.hid hrk
  have HRL := Lib.hid hrl
  clear hr hrk hrl
  go_enter Tryd.func15, Tryd.ntmps15
  unfold fileV
  go_wp2_with fail
  generalize w.alloc (.cells #[.string f.name, .int .u8 f.kind, .string f.data, .slice A f.files.length c] 25) = W1 at *
  refine HRT.out.mono ?_
  rintro e w1 ⟨rfl, hb1⟩
  have hb := HB.out.trans (hb1.mono (by have := HB.out.size; omega))
  have hn1 := (hb1.block w.heap.size hz).trans hn
  have y0 := cell_of (j := 0) hn1 rfl
  have y1 := cell_of (j := 1) hn1 rfl
  have y2 := cell_of (j := 2) hn1 rfl
  have y3 := cell_of (j := 3) hn1 rfl
  have h1 := HRK.out
  have h2 := HRL.out
  clear HRK HRL
  cases hrt : rightT f
  · rw [hrt, if_neg (by simp)] at h1 h2
    subst h1
    subst h2
    go_wp2_with fail
    go_ret2
    exact ⟨_, rfl, Kd.R_nil _ _ _ _ _, hb⟩
  · rw [hrt, if_pos rfl] at h1 h2
    subst h1
    have HL2 := Lib.hid h2
    clear h2
    go_wp2_with fail
    refine (HLS.out w1 hb).mono ?_
    rintro e w2 ⟨v, rfl, ho, hb2⟩
    have hsb := hb.size
    go_wp2_with fail
    go_ret2
    rw [HL2.out] at ho
    exact ⟨_, rfl, Kd.R_lower ho hsb, hb.trans (hb2.mono hsb)⟩
end Go.Proofs.YtdnhjnlhmfajnaaDoor.G
