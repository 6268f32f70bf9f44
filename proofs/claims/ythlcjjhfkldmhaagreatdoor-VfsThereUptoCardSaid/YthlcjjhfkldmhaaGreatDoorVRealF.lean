import Derived.Test.YthlcjjhfkldmhaaGreatDoorKit
import Derived.Test.YthlcjjhfkldmhaaGreatDoorSq
import Derived.Test.YthlcjjhfkldmhaaGreatDoorVWalkS
import Derived.Test.YthlcjjhfkldmhaaGreatDoorVChild
import Derived.Test.YthlcjjhfkldmhaaGreatDoorVHd
import Derived.Test.YthlcjjhfkldmhaaGreatDoorTShown
set_option linter.unusedVariables false
set_option linter.unusedSimpArgs false
section
namespace Go.Proofs.YthlcjjhfkldmhaaGreatDoor.G
open Go.RowKit Go.Lib Go.Proofs.YthlcjjhfkldmhaaGreatDoorW.PrintWords Go.Proofs.YthlcjjhfkldmhaaGreatDoorW.PrintLast
set_option linter.unusedVariables false
set_option linter.unusedSimpArgs false
def bv (n m:Nat):Array Bool:=((List.range n).map (fun j=>m.testBit j)).toArray
end Go.Proofs.YthlcjjhfkldmhaaGreatDoor.G
namespace Go.Proofs.YthlcjjhfkldmhaaGreatDoor.P
theorem sumP_len (l:List ByteArray):(l.length:Int)≤sumP l:=by
 induction l with
 | nil=>simp [sumP]
 | cons s l ih=>simp only [sumP,List.map_cons,List.sum_cons,List.length_cons] at *;omega
theorem norm_sum (a:List ByteArray) (s:ByteArray) (h:(normR a s).2.2=0):sumP (normR a s).1≤1024:=by
 unfold normR at h ⊢
 by_cases h1:rightB a=true
 ·rw [if_pos h1] at h ⊢
  by_cases h2:(s.size:Int)≤1024
  ·rw [if_pos h2] at h ⊢
   by_cases h3:(s.toList.isEmpty || decide (0≤Lib.indexByte s.data.toList 0))=true
   ·rw [if_pos h3] at h;exact absurd h (by decide)
   ·rw [if_neg h3] at h ⊢
    by_cases h4:((partsL s).any longB)=true
    ·rw [if_pos h4] at h;exact absurd h (by decide)
    ·rw [if_neg h4] at h ⊢
     by_cases h5:sizeP ((partsL s).foldl stepAt (startL a s))≤1024
     ·rw [if_pos h5]
      unfold sizeP at h5
      simp only
      omega
     ·rw [if_neg h5] at h;exact absurd h (by decide)
  ·rw [if_neg h2] at h;exact absurd h (by decide)
 ·rw [if_neg h1] at h;exact absurd h (by decide)
end Go.Proofs.YthlcjjhfkldmhaaGreatDoor.P
namespace Go.Proofs.YthlcjjhfkldmhaaGreatDoor.G
open Go.RowKit Go.Lib Go.Proofs.YthlcjjhfkldmhaaGreatDoorW.PrintWords Go.Proofs.YthlcjjhfkldmhaaGreatDoorW.PrintLast
set_option linter.unusedVariables false
set_option linter.unusedSimpArgs false
def lenV:Value→Nat | .slice _ n _=>n | _=>0
theorem results_tctt {P:Program} {fn:Func} {a p u v:Tmp} {ty:TypeId} (h:fn.results=#[.tmp a,.cell p ty,.tmp u,.tmp v]) (tmps:Array Value) (w:World) (g:Nat) (t:TypeId) (cs:Array Value) (fr:Nat×Nat) (d:TypeDesc)
  (hp:tmps.getD p undef=.pointer (some ⟨g,0,none⟩)) (hg:w.heap[g]? = some (.cells cs t fr))
  (hu:P.underlying ty=some d) (hd:(match d with | .struct _ | .array _ _=>true | _=>false)=true) (hi:(P.info? ty).map (·.size)=some cs.size) :
  (results fn tmps).run P w=.ok (.tuple #[tmps.getD a undef,.agg cs,tmps.getD u undef,tmps.getD v undef]) w:=by
 have h0:(results fn tmps).run P w=((asAddr (tmps.getD p undef)).run P w).andThen fun b w₁ => ((loadVar ty b).run P w₁).andThen fun x w₂ => .ok (.tuple #[tmps.getD a undef,x,tmps.getD u undef,tmps.getD v undef]) w₂ := by
  simp only [results,h]
  simp [Sem.run_bind,Result.andThen]
 rw [h0,hp]
 simp [asAddr,run_loadVar_row w g t ty cs fr d hg hu hd hi,Result.andThen]
set_option maxHeartbeats 8000000 in
set_option maxRecDepth 100000 in
theorem walk_calls (t:File) (A:Option Addr) (c:Nat) (Ap:Option Addr) (cp:Nat) (p:List ByteArray) (last:Bool) (w w0:World) (hw0:Below w0.heap.size w0 w) (ht:FileK.C w0 A t.files.length t.files) (hc:t.files.length≤c) (hbt:t.bulk≤1099511627776) (hp:Kd.C Kd.string w Ap p.length p) (hcp:p.length≤cp) (hpl:p.length≤1099511627776) (hps:P.sumP p≤1099511627776) :
  Calls Tryz.prog 37 #[fileV t A c,.slice Ap p.length cp,.bool last] w fun e w'=>∃ B d A' c',e=.returned (.tuple #[.slice B (walkR t p last).1.length d,.agg #[.string (walkR t p last).2.1.name,.int .u8 (walkR t p last).2.1.kind,.string (walkR t p last).2.1.data,.slice A' (walkR t p last).2.1.files.length c'],.bool (walkR t p last).2.2.1,.int .i64 (walkR t p last).2.2.2])∧(walkR t p last).1.length≤d∧Iv w.heap.size w'.heap.size w' (fun W=>Kd.C Kd.string W B (walkR t p last).1.length (walkR t p last).1)∧(walkR t p last).2.1.files.length≤c'∧FileK.C w0 A' (walkR t p last).2.1.files.length (walkR t p last).2.1.files∧Below w.heap.size w w':=by
 have h2:=two_boxes w (fc t A c) zC 25 25
 have hb0:=((Below.refl w.heap.size w).alloc (Nat.le_refl _) (.cells (fc t A c) 25)).alloc (by simp) (.cells zC 25)
 have HT:=Lib.hid ht
 have HP:=Lib.hid hp
 have hs0:((w.alloc (.cells (fc t A c) 25)).alloc (.cells zC 25)).heap.size=w.heap.size+2:=by simp
 obtain ⟨res,hres⟩:∃ r,walkR t p last=r:=⟨_,rfl⟩
 rw [hres]
 unfold walkR at hres
 have HR0:=Lib.hid hres
 have HT0:=Lib.hid h2.1
 have HZ0:=Lib.hid h2.2
 clear hres ht hp h2 hs0
 go_enter Tryz.func37,Tryz.ntmps37
 unfold fileV
 by_cases hp64:p.length≤64
 rotate_left
 ·have k0:decide ((p.length:Int) > 64)=true:=by simp;omega
  have k0':decide ((64:Int)<p.length)=true:=by simp;omega
  have HR1:=HR0.out
  rw [if_neg hp64] at HR1
  have HR2:=Lib.hid HR1
  clear HR1 hp64
  go_wp2_with fail
  refine bodyPost_ret (results_tctt rfl _ _ (w.heap.size+1) 25 zC (0,0) _ rfl HZ0.out Tryz.underlying25 rfl (by kernel_rfl)) rfl ?_
  rw [← HR2.out]
  exact ⟨none,0,none,0,rfl,Nat.le_refl _,Iv.all _ _ (fun W=>Kd.C_nil Kd.string W),Nat.le_refl _,Kd.C_nil FileK _,hb0⟩
 ·have k0:decide ((p.length:Int) > 64)=false:=by simp;omega
  have k0':decide ((64:Int)<p.length)=false:=by simp;omega
  have HR1:=HR0.out
  rw [if_pos hp64] at HR1
  have HR2:=Lib.hid HR1
  clear HR1 HR0
  have HCL:=Lib.hid (fun W (h:Below w.heap.size w W)=>P.clone_calls Ap cp p W (Kd.C_below HP.out h) hcp (by omega))
  go_wp2_with fail
  generalize ((w.alloc (.cells (fc t A c) 25)).alloc (.cells zC 25))=W0 at *
  refine (HCL.out _ hb0).mono ?_
  rintro e w1 ⟨v1,rfl,hR1,hq1⟩
  have hb1:=bstep hb0 hb0.size hq1
  have hsz1:=hq1.size
  have HT1:=Lib.hid ((hq1.block _ (blk_lt HT0.out)).trans HT0.out)
  have HZ1:=Lib.hid ((hq1.block _ (blk_lt HZ0.out)).trans HZ0.out)
  have hd0:=blk_lt HZ0.out
  obtain ⟨A1,c1,rfl,hc1,hC1⟩:=Kd.R_reads hR1
  have HF1:=Lib.hid (Kd.R_F hR1)
  clear hR1 hC1
  obtain ⟨l0,l1,l2,l3⟩:=c4A HT1.out
  have ha:=below_alloc (Below.refl w1.heap.size w1) (.cells (fc t A c) 25)
  have HT2:=Lib.hid ((ha.block _ (blk_lt HT1.out)).trans HT1.out)
  have HZ2:=Lib.hid ((ha.block _ (blk_lt HZ1.out)).trans HZ1.out)
  have HH2:=Lib.hid (blk_new w1 (.cells (fc t A c) 25))
  have HF2:=Lib.hid (Kd.F_apart_nil (Kd.F_below (Kd.F_elderB HF1.out w1.heap.size (Nat.le_refl _)) ha))
  have hb2:=bstep hb1 hb1.size ha
  have hgl:=blk_lt HH2.out
  have hg0:w.heap.size+2≤w1.heap.size:=by omega
  go_wp2_with fail
  clear l0 l1 l2 l3 HCL
  generalize w1.alloc (.cells (fc t A c) 25)=W2 at *
  go_loopw [10,11,13] (fun d10 d11 d13 wr=>∃ (todo done:List ByteArray) (here:File) (L:Nat) (A1:Option Addr) (c1:Nat) (A2:Option Addr) (c2:Nat),d10=.slice A1 todo.length c1∧d13=.int .i64 L∧L≤40∧done.length+todo.length≤64∧P.sumP done+P.sumP todo≤1099511627776+1025 * (L:Int)∧todo.length≤c1∧here.bulk≤t.bulk∧here.files.length≤c2∧Below w.heap.size w wr∧w1.heap.size<wr.heap.size∧Hid (wr.heap[w.heap.size]? = some (.cells (fc t A c) 25 (0,0)))∧Hid (wr.heap[w.heap.size+1]? = some (.cells zC 25 (0,0)))∧Hid (wr.heap[w1.heap.size]? = some (.cells (fc here A2 c2) 25 (0,0)))∧Hid (FileK.C w0 A2 here.files.length here.files)∧Hid (Kd.R Kd.string 9 wr (w1.heap.size+1) (fun _=>True) d11 done)∧Hid (Kd.F Kd.string wr (fun k=>(True∧k≠w1.heap.size)∧some k≠d11.ownBlock) A1 todo.length todo)∧Hid (walkIn last (followK t last (40 - L)) todo done here=res)) (fun d10 _ d13 _=>(40 - (RowKit.intOf d13).toNat) * 100+lenV d10)
  case atStart=>exact ⟨p,[],t,0,A1,c1,A,c,rfl,rfl,by omega,by simpa using hp64,by simpa [P.sumP] using hps,hc1,Nat.le_refl _,hc,hb2,hgl,HT2,HZ2,HH2,HT,Lib.hid (Kd.R_nil _ _ _ _ _),HF2,HR2⟩
  case round =>
   clear HT2 HZ2 HH2 HF2 HF1 HR2 hgl hb2 ha HT1 HZ1 hc1 hp64 k0 k0' hq1
   obtain ⟨todo,done,here,L,A1,c1,A2,c2,rfl,rfl,hL,hdl,hsm,hc1,hhb,hc2,hb,hgl,HT3,HZ3,HH3,HHC,HDN,HTD,HRS⟩:=hrel
   cases todo with
   | nil =>
    obtain ⟨A3,c3,rfl,hc3,hC3⟩:=Kd.R_reads HDN.out
    clear hC3
    have HR4:=HRS.out
    rw [walkIn] at HR4
    have HR5:=Lib.hid HR4
    clear HR4 HRS
    have l1:=cell_of (j:=1) HH3.out rfl
    go_wp2_with fail
    refine start_ (n:=6) (S:=fun w'=>w'.heap[w1.heap.size]? = some (.cells (fc here A2 c2) 25 (0,0))) (ds:=[3]) (bv 6 0) (by kernel_rfl) rfl rfl (show wr.drew.heap[w1.heap.size]? = _ from HH3.out) (fun hHeld => ?_)
    refine pA 0 103 (bv 6 1) ?_
    refine pA 2 6 (bv 6 5) ?_
    refine tA 1 104 (bv 6 7) hHeld ?_ (hy:=by
     rintro w' hs
     have q0:=cell_of (j:=0) hs rfl
     have q1:=cell_of (j:=1) hs rfl
     have q2:=cell_of (j:=2) hs rfl
     have q3:=cell_of (j:=3) hs rfl
     go_simp
     with_reducible rfl)
    refine last_ (i:=3) (N:=none) (bv 6 15) rfl rfl (by kernel_rfl) (by decide) (fun K hK => ?_)
    obtain ⟨z0,z1,z2,z3⟩:=c4A HZ3.out
    obtain ⟨u0,u1,u2,u3⟩:=u4A HZ3.out
    refine sA ?_
    refine hK.out _ _ ?_
    refine pA 4 8 (bv 6 31) ?_
    refine pA 5 9 (bv 6 63) ?_
    refine done_ (by kernel_rfl) ?_
    go_wp2_with fail
    have HZF:=store4_box HZ3.out (.string here.name) (.int .u8 here.kind) (.string here.data) (.slice A2 here.files.length c2)
    have hb9:=bdrew (store4_below hb (g:=w.heap.size+1) (by omega) (.string here.name) (.int .u8 here.kind) (.string here.data) (.slice A2 here.files.length c2))
    refine bodyPost_ret (results_tctt rfl _ _ (w.heap.size+1) 25 (fc here A2 c2) (0,0) _ rfl HZF Tryz.underlying25 rfl (by kernel_rfl)) rfl ?_
    rw [← HR5.out]
    exact ⟨A3,c3,A2,c2,rfl,hc3,Iv.low (Iv.of_R (Kd.R_step (Kd.R_bound HDN.out) fun k hk _=>store4_other _ (g:=w.heap.size+1) (by have:=hk.2.1;omega) _ _ _ _)) (by omega),hc2,HHC.out,hb9⟩
   | cons n rest =>
    obtain ⟨A3,c3,rfl,hc3,hC3⟩:=Kd.R_reads HDN.out
    clear hC3
    obtain ⟨ad,rfl,hx⟩:=Kd.at_string (Kd.F_now HTD.out) 0 (Int.le_refl 0) (by simp)
    have hx:wr.cell? ad=some (.string n):=hx
    rw [List.length_cons] at hdl hc1
    have hsc:P.sumP (n :: rest)=1+(n.size:Int)+P.sumP rest:=by simp [P.sumP]
    rw [hsc] at hsm
    clear hsc
    have hnn:=P.sumP_nonneg rest
    have hndn:=P.sumP_nonneg done
    obtain ⟨B,hB⟩:∃ B,(if c1=1 then some ad else some (ad.add 1))=B:=⟨_,rfl⟩
    have HTD2:Hid (Kd.F Kd.string wr (fun k=>(True∧k≠w1.heap.size)∧some k≠(Value.slice A3 done.length c3).ownBlock) B rest.length rest):=Lib.hid (by
     have h:=Kd.F_cut HTD.out (m:=1) (c:=c1) (by rw [List.length_cons];omega) (by rw [List.length_cons];omega)
     rw [← hB]
     exact h)
    have HB:=Lib.hid hB
    have HRS1:=HRS.out
    rw [walkIn] at HRS1
    have HRS2:=Lib.hid HRS1
    clear HRS1
    have hlp:(1:Int)≤(rest.length:Int)+1:=by omega
    clear hB HRS
    go_wp2_with fail
    refine start_ (n:=7) (S:=fun w'=>w'.cell? ad=some (.string n)) (ds:=[]) (bv 7 0) (by kernel_rfl) rfl rfl (show wr.drew.cell? ad=_ from hx) (fun hHeld => ?_)
    refine pA 0 31 (bv 7 1) ?_
    refine pA 1 32 (bv 7 3) ?_
    refine pA 3 34 (bv 7 11) ?_
    refine pB 4 35 (bv 7 27) ?_ (hy:=by
     intro w'
     go_simp
     exact congrArg (fun x=>Value.slice x rest.length (c1 - 1)) HB.out)
    refine tA 2 33 (bv 7 31) hHeld ?_ (hy:=by
     rintro w' hs
     go_simp
     with_reducible rfl)
    refine pA 5 14 (bv 7 63) ?_
    refine pA 6 15 (bv 7 127) ?_
    refine done_ (by kernel_rfl) ?_
    have hdr:=bdrew (Below.refl wr.heap.size wr)
    have I:=Lib.hid (Hd.base (bdrew hb) (by first | exact Nat.le_refl _ | exact Below.size (bdrew hb)))
    replace I:=Lib.hid (Hd.and I.out (Hd.box (show wr.drew.heap[w.heap.size]? = _ from HT3.out)))
    replace I:=Lib.hid (Hd.and I.out (Hd.box (show wr.drew.heap[w.heap.size+1]? = _ from HZ3.out)))
    replace I:=Lib.hid (Hd.and I.out (Hd.box (show wr.drew.heap[w1.heap.size]? = _ from HH3.out)))
    replace I:=Lib.hid (Hd.and I.out (Hd.F (Kd.F_drew HTD2.out)))
    replace I:=Lib.hid (Hd.and I.out (Hd.rows (Kd.R_below HDN.out hdr)))
    have HTR:=Lib.hid HTD
    clear hx HT3 HZ3 HH3 HTD2 HDN HTD hdr hHeld
    generalize wr.drew=Wd at *
    have hgd:=blk_lt I.out.now.2.2.1
    have HNL:=Lib.hid (fun k (e:(Value.slice A3 done.length c3).ownBlock=some k)=>((Kd.R_bound I.out.now.1).1 k e).2)
    by_cases hk:here.kind=1
    rotate_left
    ·skip
     have HR3:=Lib.hid (show badW 32=res from by have h:=HRS2.out;rw [if_neg hk] at h;exact h)
     have k1:(here.kind != 1)=true:=by rw [bne_iff_ne];exact hk
     obtain ⟨lh0,lh1,lh2,lh3⟩:=c4A I.out.now.2.2.1
     have HZ:=I.out.now.2.2.2.1
     have HZF:=Lib.hid (store4_box HZ (.string ⟨#[]⟩) (.int .u8 0) (.string ⟨#[]⟩) (.slice none 0 0))
     have HB9:=Lib.hid (store4_below I.out.now.2.2.2.2.2 (g:=w.heap.size+1) (by omega) (.string ⟨#[]⟩) (.int .u8 0) (.string ⟨#[]⟩) (.slice none 0 0))
     obtain ⟨z0,z1,z2,z3⟩:=c4A HZ
     obtain ⟨u0,u1,u2,u3⟩:=u4A HZ
     go_wp2_with fail
     refine bodyPost_ret (results_tctt rfl _ _ (w.heap.size+1) 25 zC (0,0) _ rfl HZF.out Tryz.underlying25 rfl (by kernel_rfl)) rfl ?_
     rw [← HR3.out]
     exact ⟨none,0,none,0,rfl,Nat.le_refl _,Iv.all _ _ (fun W=>Kd.C_nil Kd.string W),Nat.le_refl _,Kd.C_nil FileK _,HB9.out⟩
    ·skip
     have HR3:=HRS2.out
     rw [if_pos hk] at HR3
     replace HR3:=Lib.hid HR3
     have k1:(here.kind != 1)=false:=by rw [hk];rfl
     have HK:=Lib.hid hk
     clear hk
     have hhl:=bulkL_len here.files
     have hhe:=bulk_eq here
     have HCH:=Lib.hid (fun W (h:Below w.heap.size w W)=>child_calls here A2 c2 n W w0 (hw0.trans (h.mono hw0.size)) HHC.out hc2 (by omega))
     clear hhl hhe
     obtain ⟨lh0,lh1,lh2,lh3⟩:=c4A I.out.now.2.2.1
     go_wp2_with fail
     clear lh0 lh1 lh2 lh3
     clear k1
     rcases hf:here.files.find? (nameIs n) with _ | x
     ·skip
      have hco:childO here n=(zeroF,false):=by unfold childO;rw [hf]
      have HR4:=HR3.out
      rw [hf] at HR4
      simp only at HR4
      replace HR4:=Lib.hid HR4
      rw [hco] at HCH
      clear hco hf
      refine (HCH.out _ I.out.now.2.2.2.2.2).mono ?_
      rintro e w21 ⟨A4,c4,rfl,hc4,hC4,hq21⟩
      replace I:=Lib.hid (Hd.mv I.out hq21)
      simp only [zeroF,List.length_nil]
      clear hC4 hc4
      have ha22:=below_alloc (Below.refl w21.heap.size w21) (.cells #[.string ⟨#[]⟩,.int .u8 0,.string ⟨#[]⟩,.slice A4 0 c4] 25)
      replace I:=Lib.hid (Hd.mv I.out ha22)
      replace I:=Lib.hid (Hd.and I.out (Hd.box (blk_new w21 (.cells #[.string ⟨#[]⟩,.int .u8 0,.string ⟨#[]⟩,.slice A4 0 c4] 25))))
      obtain ⟨WX,hWWX⟩:∃ W,(w21.alloc (.cells #[.string ⟨#[]⟩,.int .u8 0,.string ⟨#[]⟩,.slice A4 0 c4] 25))=W:=⟨_,rfl⟩
      rw [hWWX] at I
      by_cases hr0:rest.length=0
      rotate_left
      ·skip
       have HR5:=Lib.hid (show badW 31=res from by have h:=HR4.out;rw [if_neg hr0] at h;exact h)
       have k2:decide ((0:Int)<(rest.length:Int))=true:=by simp;omega
       have k2r:(0:Int)<(rest.length:Int):=by omega
       clear hr0
       have HZ:=I.out.now.2.2.2.2.1
       have HZF:=Lib.hid (store4_box HZ (.string ⟨#[]⟩) (.int .u8 0) (.string ⟨#[]⟩) (.slice none 0 0))
       have HB9:=Lib.hid (store4_below I.out.now.2.2.2.2.2.2 (g:=w.heap.size+1) (by omega) (.string ⟨#[]⟩) (.int .u8 0) (.string ⟨#[]⟩) (.slice none 0 0))
       obtain ⟨z0,z1,z2,z3⟩:=c4A HZ
       obtain ⟨u0,u1,u2,u3⟩:=u4A HZ
       go_wp2_with fail
       refine bodyPost_ret (results_tctt rfl _ _ (w.heap.size+1) 25 zC (0,0) _ rfl HZF.out Tryz.underlying25 rfl (by kernel_rfl)) rfl ?_
       rw [← HR5.out]
       exact ⟨none,0,none,0,rfl,Nat.le_refl _,Iv.all _ _ (fun W=>Kd.C_nil Kd.string W),Nat.le_refl _,Kd.C_nil FileK _,HB9.out⟩
      ·skip
       have HR5:=HR4.out
       rw [if_pos hr0] at HR5
       replace HR5:=Lib.hid HR5
       obtain rfl:rest=[]:=List.length_eq_zero_iff.1 hr0
       clear hr0
       have HDO:=Lib.hid I.out.now.2.1
       have HZX:=Lib.hid I.out.now.2.2.2.2.1
       have hbx:=I.out.now.2.2.2.2.2.2
       have hlx:w1.heap.size<WX.heap.size:=blk_lt I.out.now.2.2.2.1
       have HNB:=Lib.hid (fun k (e:(Value.slice A3 done.length c3).ownBlock=some k)=>((Kd.R_bound HDO.out).1 k e).2.1)
       go_wp2_with (at_builtin;refine Kd.R_append Kd.string (w0:=WX) (w1.heap.size+1) rfl (.tmp 52) (.tmp 54) 40 9 (.string ⟨#[]⟩) 16 rfl Tryz.underlying40 info_str rfl (by decide) (by decide) (.slice A3 done.length c3) done n [.string n] (fun _=>True) (fun _=>False) rfl rfl ?aP ?aK ?aF ?aO ?aB ?aS ?aL ?_;(case aP=>exact rfl);(case aK=>exact fun j hj=>hj.elim);(case aF=>exact fun _ _=>trivial);(case aO=>exact HDO.out);(case aB=>exact Below.refl _ _);(case aS=>exact hlx);(case aL=>omega);intro v2 w2 ho2 hb2 hg2 hat2;have HZ2:=Lib.hid ((hg2.block (w.heap.size+1) (blk_lt HZX.out) (fun e=>by have:=HNB.out _ e.symm;omega)).trans HZX.out);have z0:=cell_of (j:=0) HZ2.out rfl;have u0:=unfr HZ2.out 0;have z1:=cell_of (j:=1) HZ2.out rfl;have u1:=unfr HZ2.out 1;have z2:=cell_of (j:=2) HZ2.out rfl;have u2:=unfr HZ2.out 2;have z3:=cell_of (j:=3) HZ2.out rfl;have u3:=unfr HZ2.out 3)
       clear hWWX
       obtain ⟨A5,c5,rfl,hc5,hC5⟩:=Kd.R_reads ho2
       have HZF:=store4_box HZ2.out (.string ⟨#[]⟩) (.int .u8 0) (.string ⟨#[]⟩) (.slice none 0 0)
       have HB9:=store4_below (hbx.trans (hb2.mono (by omega))) (g:=w.heap.size+1) (by omega) (.string ⟨#[]⟩) (.int .u8 0) (.string ⟨#[]⟩) (.slice none 0 0)
       refine bodyPost_ret (results_tctt rfl _ _ (w.heap.size+1) 25 zC (0,0) _ rfl HZF Tryz.underlying25 rfl (by kernel_rfl)) rfl ?_
       rw [← HR5.out]
       exact ⟨A5,c5,none,0,rfl,hc5,Iv.low (Iv.of_R (Kd.R_step (Kd.R_bound ho2) fun k hk _=>store4_other _ (g:=w.heap.size+1) (by have:=hk.2.1;omega) _ _ _ _)) (by omega),Nat.le_refl _,Kd.C_nil FileK _,HB9⟩
     ·skip
      have hco:childO here n=(x,true):=by unfold childO;rw [hf]
      have HR4:=HR3.out
      rw [hf] at HR4
      simp only at HR4
      replace HR4:=Lib.hid HR4
      rw [hco] at HCH
      have hxb:=bulk_child (List.mem_of_find?_eq_some hf)
      clear hco hf HR3
      refine (HCH.out _ I.out.now.2.2.2.2.2).mono ?_
      rintro e w21 ⟨A4,c4,rfl,hc4,hC4,hq21⟩
      replace I:=Lib.hid (Hd.mv I.out hq21)
      simp only at hc4 hC4 ⊢
      have HXC:=Lib.hid hC4
      clear hC4
      have ha22:=below_alloc (Below.refl w21.heap.size w21) (.cells (fc x A4 c4) 25)
      replace I:=Lib.hid (Hd.mv I.out ha22)
      replace I:=Lib.hid (Hd.and I.out (Hd.box (blk_new w21 (.cells (fc x A4 c4) 25))))
      by_cases hx3:x.kind=3∧¬ (rest.length=0∧last=false)
      rotate_left
      ·skip
       have HR5:=HR4.out
       rw [if_neg hx3] at HR5
       replace HR5:=Lib.hid HR5
       by_cases h3:x.kind=3
       rotate_left
       ·skip
        have k2:(x.kind != 3)=true:=by rw [bne_iff_ne];exact h3
        have k3:(x.kind == 3)=false:=beq_eq_false_iff_ne.2 h3
        clear h3 hx3
        obtain ⟨lx0,lx1,lx2,lx3⟩:=c4A I.out.now.1
        obtain ⟨lh0,lh1,lh2,lh3⟩:=c4A I.out.now.2.2.2.1
        go_wp2_with fail
        clear lx0 lx1 lx2 lx3 lh0 lh1 lh2 lh3
        generalize (w21.alloc (.cells (fc x A4 c4) 25))=WX at *
        clear k2
        have HDO:=Lib.hid I.out.now.2.1
        have HZX:=Lib.hid I.out.now.2.2.2.2.1
        have hbx:=I.out.now.2.2.2.2.2.2
        have hlx:w1.heap.size<WX.heap.size:=blk_lt I.out.now.2.2.2.1
        have HNB:=Lib.hid (fun k (e:(Value.slice A3 done.length c3).ownBlock=some k)=>((Kd.R_bound HDO.out).1 k e).2.1)
        have hdq:=bdrew (Below.refl WX.heap.size WX)
        replace HDO:=Lib.hid (Kd.R_below HDO.out hdq)
        replace HZX:=Lib.hid (show WX.drew.heap[w.heap.size+1]? = _ from HZX.out)
        replace hbx:=bdrew hbx
        replace hlx:w1.heap.size<WX.drew.heap.size:=hlx
        have HXX:=Lib.hid (show WX.drew.heap[w21.heap.size]? = _ from I.out.now.1)
        have HTX:=Lib.hid (show WX.drew.heap[w.heap.size]? = _ from I.out.now.2.2.2.2.2.1)
        have HHX:=Lib.hid (show WX.drew.heap[w1.heap.size]? = _ from I.out.now.2.2.2.1)
        have HRX:=Lib.hid (Kd.F_drew I.out.now.2.2.1)
        have hwd:=ha22.size
        have hxa:=hq21.size
        clear I hdq
        refine start_ (n:=9) (S:=fun w'=>w'.heap[w21.heap.size]? = some (.cells (fc x A4 c4) 25 (0,0))) (ds:=[7]) (bv 9 0) (by kernel_rfl) rfl rfl HXX.out (fun hHeld => ?_)
        generalize WX.drew=WD at *
        refine pA 0 69 (bv 9 1) ?_
        refine pA 1 70 (bv 9 3) ?_
        refine pA 5 74 (bv 9 35) ?_
        refine tA 4 73 (bv 9 51) hHeld ?_ (hy:=by
         rintro w' hs
         have q0:=cell_of (j:=0) hs rfl
         have q1:=cell_of (j:=1) hs rfl
         have q2:=cell_of (j:=2) hs rfl
         have q3:=cell_of (j:=3) hs rfl
         go_simp
         with_reducible rfl)
        refine eA 2 71 (bv 9 55) (fun K hK => ?_)
        refine vA ?_
        refine hK.out _ _ (((below_alloc (Below.refl WD.heap.size WD) (.cells #[.string n] 9)).block _ (blk_lt HXX.out)).trans HXX.out) (fun hHeld => ?_)
        refine nA 71 ?_
        refine eA 3 72 (bv 9 63) (fun K hK => ?_)
        refine Kd.R_append_step Kd.string (w0:=WD) (w1.heap.size+1) (by rfl) (.tmp 69) (.tmp 71) 40 9 (.string ⟨#[]⟩) 16 rfl Tryz.underlying40 info_str rfl (by decide) (by decide) (.slice A3 done.length c3) done n [.string n] (fun _=>True) (fun _=>False) rfl rfl ?aP ?aK ?aF ?aO ?aB ?aS ?aL ?_
        case aP=>exact rfl
        case aK=>exact fun j hj=>hj.elim
        case aF=>exact fun _ _=>trivial
        case aO=>exact HDO.out
        case aB=>exact Below.refl _ _
        case aS=>exact hlx
        case aL=>omega
        intro v2 w2 ho2 hb2 hg2 hat2
        have hs2:=hg2.size
        have HX2:=Lib.hid ((hg2.block w21.heap.size (blk_lt HXX.out) (fun e=>by have:=HNL.out _ e.symm;omega)).trans HXX.out)
        have HT2:=Lib.hid ((hg2.block w.heap.size (blk_lt HTX.out) (fun e=>by have:=HNL.out _ e.symm;omega)).trans HTX.out)
        have HZ2:=Lib.hid ((hg2.block (w.heap.size+1) (blk_lt HZX.out) (fun e=>by have:=HNL.out _ e.symm;omega)).trans HZX.out)
        have HH2:=Lib.hid ((hg2.block w1.heap.size (blk_lt HHX.out) (fun e=>by have:=HNL.out _ e.symm;omega)).trans HHX.out)
        have HF2:=Lib.hid (Kd.F_after HRX.out hg2 hat2)
        have HO2:=Lib.hid ho2
        have hbw2:Below w.heap.size w w2:=hbx.trans (hb2.mono (by omega))
        clear ho2 hb2 hg2 hat2
        refine hK.out _ _ HX2.out (fun hHeld => ?_)
        refine nA 72 ?_
        refine pA 6 11 (bv 9 127) ?_
        refine last_ (i:=7) (N:=none) (bv 9 255) rfl rfl (by kernel_rfl) (by decide) (fun K hK => ?_)
        obtain ⟨z0,z1,z2,z3⟩:=c4A HH2.out
        obtain ⟨u0,u1,u2,u3⟩:=u4A HH2.out
        refine sA ?_
        refine hK.out _ _ ?_
        refine pA 8 10 (bv 9 511) ?_
        refine done_ (by kernel_rfl) ?_
        have hst:=fun k (hk:k≠w1.heap.size)=>store4_other w2 (g:=w1.heap.size) (k:=k) hk (.string x.name) (.int .u8 x.kind) (.string x.data) (.slice A4 x.files.length c4)
        have HH3:=store4_box HH2.out (.string x.name) (.int .u8 x.kind) (.string x.data) (.slice A4 x.files.length c4)
        have hb3:=store4_below hbw2 (g:=w1.heap.size) (by omega) (.string x.name) (.int .u8 x.kind) (.string x.data) (.slice A4 x.files.length c4)
        have HT3:=(hst _ (by omega)).trans HT2.out
        have HZ3:=(hst _ (by omega)).trans HZ2.out
        have HX3:=(hst w21.heap.size (by omega)).trans HX2.out
        have HO3:=Kd.R_step (w1:=((((w2.setCell ⟨w1.heap.size,0,none⟩ (.string x.name)).setCell ⟨w1.heap.size,1,none⟩ (.int .u8 x.kind)).setCell ⟨w1.heap.size,2,none⟩ (.string x.data)).setCell ⟨w1.heap.size,3,none⟩ (.slice A4 x.files.length c4))) (Kd.R_bound HO2.out) fun k hk _=>hst k (by have:=hk.2.1;omega)
        have HF3:=Kd.F_step (W1:=((((w2.setCell ⟨w1.heap.size,0,none⟩ (.string x.name)).setCell ⟨w1.heap.size,1,none⟩ (.int .u8 x.kind)).setCell ⟨w1.heap.size,2,none⟩ (.string x.data)).setCell ⟨w1.heap.size,3,none⟩ (.slice A4 x.files.length c4))) HF2.out fun k hk _=>hst k hk.1.2
        obtain ⟨W3,hW3⟩:∃ W,((((w2.setCell ⟨w1.heap.size,0,none⟩ (.string x.name)).setCell ⟨w1.heap.size,1,none⟩ (.int .u8 x.kind)).setCell ⟨w1.heap.size,2,none⟩ (.string x.data)).setCell ⟨w1.heap.size,3,none⟩ (.slice A4 x.files.length c4))=W:=⟨_,rfl⟩
        rw [hW3] at HH3 hb3 HT3 HZ3 HX3 HO3 HF3
        clear z0 z1 z2 z3 u0 u1 u2 u3 hst HHX HTX HXX HRX HT2 HZ2 HX2 HH2 HF2 HO2 hHeld hK
        have hg3:=blk_lt HH3
        have lx1:=cell_of (j:=1) HX3 rfl
        have HHH:=Lib.hid HH3
        have HTT:=Lib.hid HT3
        have HZZ:=Lib.hid HZ3
        have HOO:=Lib.hid (Kd.R_mono HO3 (ok':=fun _=>True) fun _ _=>trivial)
        have HFF:=Lib.hid HF3
        clear HH3 HT3 HZ3 HX3 HO3 HF3
        go_wp2_with fail
        go_roundw
        case rel=>exact ⟨rest,done++[n],x,L,B,c1 - 1,A4,c4,rfl,rfl,hL,by rw [List.length_append,List.length_singleton];omega,by rw [P.sumP_snoc];omega,by omega,by omega,hc4,hb3,hg3,HTT,HZZ,HHH,HXC,HOO,HFF,HR5⟩
        case measure=>simp [RowKit.intOf,lenV]
       ·skip
        have hrl:rest.length=0∧last=false:=by
         by_cases h:rest.length=0∧last=false
         ·exact h
         ·exact absurd ⟨h3,h⟩ hx3
        obtain ⟨hr0,rfl⟩:=hrl
        obtain rfl:rest=[]:=List.length_eq_zero_iff.1 hr0
        have k2:(x.kind != 3)=false:=by rw [h3];rfl
        have k3:(x.kind == 3)=true:=by rw [h3];rfl
        clear h3 hx3 hr0
        obtain ⟨lx0,lx1,lx2,lx3⟩:=c4A I.out.now.1
        obtain ⟨lh0,lh1,lh2,lh3⟩:=c4A I.out.now.2.2.2.1
        go_wp2_with fail
        clear lx0 lx1 lx2 lx3 lh0 lh1 lh2 lh3
        generalize (w21.alloc (.cells (fc x A4 c4) 25))=WX at *
        clear k2
        have HDO:=Lib.hid I.out.now.2.1
        have HZX:=Lib.hid I.out.now.2.2.2.2.1
        have hbx:=I.out.now.2.2.2.2.2.2
        have hlx:w1.heap.size<WX.heap.size:=blk_lt I.out.now.2.2.2.1
        have HNB:=Lib.hid (fun k (e:(Value.slice A3 done.length c3).ownBlock=some k)=>((Kd.R_bound HDO.out).1 k e).2.1)
        have hdq:=bdrew (Below.refl WX.heap.size WX)
        replace HDO:=Lib.hid (Kd.R_below HDO.out hdq)
        replace HZX:=Lib.hid (show WX.drew.heap[w.heap.size+1]? = _ from HZX.out)
        replace hbx:=bdrew hbx
        replace hlx:w1.heap.size<WX.drew.heap.size:=hlx
        have HXX:=Lib.hid (show WX.drew.heap[w21.heap.size]? = _ from I.out.now.1)
        have HTX:=Lib.hid (show WX.drew.heap[w.heap.size]? = _ from I.out.now.2.2.2.2.2.1)
        have HHX:=Lib.hid (show WX.drew.heap[w1.heap.size]? = _ from I.out.now.2.2.2.1)
        have HRX:=Lib.hid (Kd.F_drew I.out.now.2.2.1)
        have hwd:=ha22.size
        have hxa:=hq21.size
        clear I hdq
        refine start_ (n:=9) (S:=fun w'=>w'.heap[w21.heap.size]? = some (.cells (fc x A4 c4) 25 (0,0))) (ds:=[7]) (bv 9 0) (by kernel_rfl) rfl rfl HXX.out (fun hHeld => ?_)
        generalize WX.drew=WD at *
        refine pA 0 69 (bv 9 1) ?_
        refine pA 1 70 (bv 9 3) ?_
        refine pA 5 74 (bv 9 35) ?_
        refine tA 4 73 (bv 9 51) hHeld ?_ (hy:=by
         rintro w' hs
         have q0:=cell_of (j:=0) hs rfl
         have q1:=cell_of (j:=1) hs rfl
         have q2:=cell_of (j:=2) hs rfl
         have q3:=cell_of (j:=3) hs rfl
         go_simp
         with_reducible rfl)
        refine eA 2 71 (bv 9 55) (fun K hK => ?_)
        refine vA ?_
        refine hK.out _ _ (((below_alloc (Below.refl WD.heap.size WD) (.cells #[.string n] 9)).block _ (blk_lt HXX.out)).trans HXX.out) (fun hHeld => ?_)
        refine nA 71 ?_
        refine eA 3 72 (bv 9 63) (fun K hK => ?_)
        refine Kd.R_append_step Kd.string (w0:=WD) (w1.heap.size+1) (by rfl) (.tmp 69) (.tmp 71) 40 9 (.string ⟨#[]⟩) 16 rfl Tryz.underlying40 info_str rfl (by decide) (by decide) (.slice A3 done.length c3) done n [.string n] (fun _=>True) (fun _=>False) rfl rfl ?aP ?aK ?aF ?aO ?aB ?aS ?aL ?_
        case aP=>exact rfl
        case aK=>exact fun j hj=>hj.elim
        case aF=>exact fun _ _=>trivial
        case aO=>exact HDO.out
        case aB=>exact Below.refl _ _
        case aS=>exact hlx
        case aL=>omega
        intro v2 w2 ho2 hb2 hg2 hat2
        have hs2:=hg2.size
        have HX2:=Lib.hid ((hg2.block w21.heap.size (blk_lt HXX.out) (fun e=>by have:=HNL.out _ e.symm;omega)).trans HXX.out)
        have HT2:=Lib.hid ((hg2.block w.heap.size (blk_lt HTX.out) (fun e=>by have:=HNL.out _ e.symm;omega)).trans HTX.out)
        have HZ2:=Lib.hid ((hg2.block (w.heap.size+1) (blk_lt HZX.out) (fun e=>by have:=HNL.out _ e.symm;omega)).trans HZX.out)
        have HH2:=Lib.hid ((hg2.block w1.heap.size (blk_lt HHX.out) (fun e=>by have:=HNL.out _ e.symm;omega)).trans HHX.out)
        have HF2:=Lib.hid (Kd.F_after HRX.out hg2 hat2)
        have HO2:=Lib.hid ho2
        have hbw2:Below w.heap.size w w2:=hbx.trans (hb2.mono (by omega))
        clear ho2 hb2 hg2 hat2
        refine hK.out _ _ HX2.out (fun hHeld => ?_)
        refine nA 72 ?_
        refine pA 6 11 (bv 9 127) ?_
        refine last_ (i:=7) (N:=none) (bv 9 255) rfl rfl (by kernel_rfl) (by decide) (fun K hK => ?_)
        obtain ⟨z0,z1,z2,z3⟩:=c4A HH2.out
        obtain ⟨u0,u1,u2,u3⟩:=u4A HH2.out
        refine sA ?_
        refine hK.out _ _ ?_
        refine pA 8 10 (bv 9 511) ?_
        refine done_ (by kernel_rfl) ?_
        have hst:=fun k (hk:k≠w1.heap.size)=>store4_other w2 (g:=w1.heap.size) (k:=k) hk (.string x.name) (.int .u8 x.kind) (.string x.data) (.slice A4 x.files.length c4)
        have HH3:=store4_box HH2.out (.string x.name) (.int .u8 x.kind) (.string x.data) (.slice A4 x.files.length c4)
        have hb3:=store4_below hbw2 (g:=w1.heap.size) (by omega) (.string x.name) (.int .u8 x.kind) (.string x.data) (.slice A4 x.files.length c4)
        have HT3:=(hst _ (by omega)).trans HT2.out
        have HZ3:=(hst _ (by omega)).trans HZ2.out
        have HX3:=(hst w21.heap.size (by omega)).trans HX2.out
        have HO3:=Kd.R_step (w1:=((((w2.setCell ⟨w1.heap.size,0,none⟩ (.string x.name)).setCell ⟨w1.heap.size,1,none⟩ (.int .u8 x.kind)).setCell ⟨w1.heap.size,2,none⟩ (.string x.data)).setCell ⟨w1.heap.size,3,none⟩ (.slice A4 x.files.length c4))) (Kd.R_bound HO2.out) fun k hk _=>hst k (by have:=hk.2.1;omega)
        have HF3:=Kd.F_step (W1:=((((w2.setCell ⟨w1.heap.size,0,none⟩ (.string x.name)).setCell ⟨w1.heap.size,1,none⟩ (.int .u8 x.kind)).setCell ⟨w1.heap.size,2,none⟩ (.string x.data)).setCell ⟨w1.heap.size,3,none⟩ (.slice A4 x.files.length c4))) HF2.out fun k hk _=>hst k hk.1.2
        obtain ⟨W3,hW3⟩:∃ W,((((w2.setCell ⟨w1.heap.size,0,none⟩ (.string x.name)).setCell ⟨w1.heap.size,1,none⟩ (.int .u8 x.kind)).setCell ⟨w1.heap.size,2,none⟩ (.string x.data)).setCell ⟨w1.heap.size,3,none⟩ (.slice A4 x.files.length c4))=W:=⟨_,rfl⟩
        rw [hW3] at HH3 hb3 HT3 HZ3 HX3 HO3 HF3
        clear z0 z1 z2 z3 u0 u1 u2 u3 hst HHX HTX HXX HRX HT2 HZ2 HX2 HH2 HF2 HO2 hHeld hK
        have hg3:=blk_lt HH3
        have lx1:=cell_of (j:=1) HX3 rfl
        have HHH:=Lib.hid HH3
        have HTT:=Lib.hid HT3
        have HZZ:=Lib.hid HZ3
        have HOO:=Lib.hid (Kd.R_mono HO3 (ok':=fun _=>True) fun _ _=>trivial)
        have HFF:=Lib.hid HF3
        clear HH3 HT3 HZ3 HX3 HO3 HF3
        obtain ⟨dn,hdn⟩:∃ dn,done++[n]=dn:=⟨_,rfl⟩
        rw [hdn] at HOO HR5
        clear hdn
        obtain ⟨A5,c5,rfl,hc5,hC5⟩:=Kd.R_reads HOO.out
        clear hC5
        have HR6:=HR5.out
        rw [walkIn] at HR6
        have HR7:=Lib.hid HR6
        clear HR6 HR5
        go_wp2_with fail
        clear lx1 hW3
        refine start_ (n:=6) (S:=fun w'=>w'.heap[w1.heap.size]? = some (.cells (fc x A4 c4) 25 (0,0))) (ds:=[3]) (bv 6 0) (by kernel_rfl) rfl rfl (show W3.drew.heap[w1.heap.size]? = _ from HHH.out) (fun hHeld => ?_)
        refine pA 0 103 (bv 6 1) ?_
        refine pA 2 6 (bv 6 5) ?_
        refine tA 1 104 (bv 6 7) hHeld ?_ (hy:=by
         rintro w' hs
         have q0:=cell_of (j:=0) hs rfl
         have q1:=cell_of (j:=1) hs rfl
         have q2:=cell_of (j:=2) hs rfl
         have q3:=cell_of (j:=3) hs rfl
         go_simp
         with_reducible rfl)
        refine last_ (i:=3) (N:=none) (bv 6 15) rfl rfl (by kernel_rfl) (by decide) (fun K hK => ?_)
        obtain ⟨z0,z1,z2,z3⟩:=c4A HZZ.out
        obtain ⟨u0,u1,u2,u3⟩:=u4A HZZ.out
        refine sA ?_
        refine hK.out _ _ ?_
        refine pA 4 8 (bv 6 31) ?_
        refine pA 5 9 (bv 6 63) ?_
        refine done_ (by kernel_rfl) ?_
        go_wp2_with fail
        have HZF:=store4_box HZZ.out (.string x.name) (.int .u8 x.kind) (.string x.data) (.slice A4 x.files.length c4)
        have hb9:=bdrew (store4_below hb3 (g:=w.heap.size+1) (by omega) (.string x.name) (.int .u8 x.kind) (.string x.data) (.slice A4 x.files.length c4))
        refine bodyPost_ret (results_tctt rfl _ _ (w.heap.size+1) 25 (fc x A4 c4) (0,0) _ rfl HZF Tryz.underlying25 rfl (by kernel_rfl)) rfl ?_
        rw [← HR7.out]
        exact ⟨A5,c5,A4,c4,rfl,hc5,Iv.low (Iv.of_R (Kd.R_step (Kd.R_bound HOO.out) fun k hk _=>store4_other _ (g:=w.heap.size+1) (by have:=hk.2.1;omega) _ _ _ _)) (by omega),hc4,HXC.out,hb9⟩
      ·skip
       have HR5:=HR4.out
       rw [if_pos hx3] at HR5
       replace HR5:=Lib.hid HR5
       have k2:(x.kind != 3)=false:=by rw [hx3.1];rfl
       have hor:((rest.length:Int) == 0)=false∨(((rest.length:Int) == 0)=true∧last=true):=by
        by_cases h:rest.length=0
        ·refine .inr ⟨by rw [beq_iff_eq];omega,?_⟩
         cases hl:last
         ·exact absurd ⟨h,hl⟩ hx3.2
         ·rfl
        ·exact .inl (by rw [beq_eq_false_iff_ne];omega)
       clear hx3 HR4
       rcases hor with k4 | ⟨k4,rfl⟩
       all_goals
        obtain ⟨lx0,lx1,lx2,lx3⟩:=c4A I.out.now.1
        by_cases hL40:L=40
        rotate_left 0
        ·skip
         have k6:((L:Int) == 40)=true:=by rw [beq_iff_eq];omega
         have HR6:=HR5.out
         rw [show 40 - L=0 by omega] at HR6
         have HR7:=Lib.hid (show badW 41=res from HR6)
         clear HR6 hL40
         have HZ:=I.out.now.2.2.2.2.1
         have HZF:=Lib.hid (store4_box HZ (.string ⟨#[]⟩) (.int .u8 0) (.string ⟨#[]⟩) (.slice none 0 0))
         have HB9:=Lib.hid (store4_below I.out.now.2.2.2.2.2.2 (g:=w.heap.size+1) (by omega) (.string ⟨#[]⟩) (.int .u8 0) (.string ⟨#[]⟩) (.slice none 0 0))
         obtain ⟨z0,z1,z2,z3⟩:=c4A HZ
         obtain ⟨u0,u1,u2,u3⟩:=u4A HZ
         go_wp2_with fail
         refine bodyPost_ret (results_tctt rfl _ _ (w.heap.size+1) 25 zC (0,0) _ rfl HZF.out Tryz.underlying25 rfl (by kernel_rfl)) rfl ?_
         rw [← HR7.out]
         exact ⟨none,0,none,0,rfl,Nat.le_refl _,Iv.all _ _ (fun W=>Kd.C_nil Kd.string W),Nat.le_refl _,Kd.C_nil FileK _,HB9.out⟩
        ·skip
         have k6:((L:Int) == 40)=false:=by rw [beq_eq_false_iff_ne];omega
         obtain ⟨m,hm⟩:∃ m,40 - L=m+1:=⟨39 - L,by omega⟩
         have HR6:=HR5.out
         rw [hm] at HR6
         simp only [followK] at HR6
         have HR7:=Lib.hid HR6
         have HM:=Lib.hid hm
         have hmm:40 - (L+1)=m:=by omega
         have HMM:=Lib.hid hmm
         clear HR6 HR5 hm hmm
         have hnrm:=P.norm_sum done x.data
         go_wp2_with fail
         clear lx0 lx1 lx2 lx3
         generalize (w21.alloc (.cells (fc x A4 c4) 25))=WX at *
         have hwx:=ha22.size
         have hwq:=hq21.size
         have HTB:=Lib.hid I.out.now.2.2.2.2.2.1
         refine (P.normal_calls A3 c3 done x.data _ (Kd.R_reads' I.out.now.2.1).2.2 hc3 (by omega) (by omega)).mono ?_
         rintro e w23 ⟨v,rfl,hR,hq23⟩
         replace I:=Lib.hid (Hd.mv I.out hq23)
         obtain ⟨⟨to_,bo,k⟩,hnr⟩:∃ g,P.normR done x.data=g:=⟨_,rfl⟩
         have HR8:=HR7.out
         rw [hnr] at HR8 hnrm hR
         rw [hnr]
         simp only at HR8 hnrm hR ⊢
         replace HR8:=Lib.hid HR8
         clear hnr HR7
         obtain ⟨A5,c5,rfl,hc5,hC5⟩:=Kd.R_reads hR
         clear hC5
         have HTO:=Lib.hid hR
         clear hR
         by_cases hk0:k=0
         rotate_left
         ·skip
          have HR9:=Lib.hid (show badW k=res from by have h:=HR8.out;rw [if_neg hk0] at h;exact h)
          have k7:(k != 0)=true:=by rw [bne_iff_ne];exact hk0
          clear hnrm hk0
          have HZ:=I.out.now.2.2.2.2.1
          have HZF:=Lib.hid (store4_box HZ (.string ⟨#[]⟩) (.int .u8 0) (.string ⟨#[]⟩) (.slice none 0 0))
          have HB9:=Lib.hid (store4_below I.out.now.2.2.2.2.2.2 (g:=w.heap.size+1) (by omega) (.string ⟨#[]⟩) (.int .u8 0) (.string ⟨#[]⟩) (.slice none 0 0))
          obtain ⟨z0,z1,z2,z3⟩:=c4A HZ
          obtain ⟨u0,u1,u2,u3⟩:=u4A HZ
          go_wp2_with fail
          refine bodyPost_ret (results_tctt rfl _ _ (w.heap.size+1) 25 zC (0,0) _ rfl HZF.out Tryz.underlying25 rfl (by kernel_rfl)) rfl ?_
          rw [← HR9.out]
          exact ⟨none,0,none,0,rfl,Nat.le_refl _,Iv.all _ _ (fun W=>Kd.C_nil Kd.string W),Nat.le_refl _,Kd.C_nil FileK _,HB9.out⟩
         ·skip
          subst hk0
          have hns:=hnrm rfl
          have htl:=P.sumP_len to_
          obtain ⟨L2,hL2⟩:∃ L2,to_++rest=L2:=⟨_,rfl⟩
          have hll:L2.length=to_.length+rest.length:=by rw [← hL2];simp
          have hls:P.sumP L2=P.sumP to_+P.sumP rest:=by rw [← hL2];simp [P.sumP,List.sum_append]
          have hl64:L2.length≤64→L2.length≤64:=id
          have hlm:(to_.length+rest.length) * 16≤140737488355328:=by omega
          have hls2:P.sumP L2≤1024+P.sumP rest:=by omega
          have HR9:=HR8.out
          rw [if_pos rfl,hL2] at HR9
          replace HR9:=Lib.hid HR9
          have HL2:=Lib.hid hL2
          have HNT:=Lib.hid (fun k (e:(Value.slice A5 to_.length c5).ownBlock=some k)=>((Kd.R_bound HTO.out).1 k e).2.1)
          have HTW:=Lib.hid I.out.now.2.2.2.2.2.1
          have HZW:=Lib.hid I.out.now.2.2.2.2.1
          have HHW:=Lib.hid I.out.now.2.2.2.1
          have hbc:=I.out.now.2.2.2.2.2.2
          have HRW:=Lib.hid (Kd.F_now I.out.now.2.2.1)
          clear hL2 hll hls hl64 hnrm HR8
          have hww:=hq23.size
          by_cases h64:L2.length≤64
          rotate_left
          ·skip
           have k8:decide ((L2.length:Int) > 64)=true:=by simp;omega
           have k8r:(64:Int)<(L2.length:Int):=by omega
           have HR10:=Lib.hid (show badW 3=res from by have h:=HR9.out;rw [if_neg h64] at h;exact h)
           clear h64
           go_wp2_with (at_builtin;refine Kd.R_append_row Value.string ByteArray.empty (h1:=fun _=>rfl) (w0:=w23) WX.heap.size rfl (.tmp 95) (.tmp 96) 40 9 (.string ⟨#[]⟩) 16 rfl Tryz.underlying40 info_str rfl (by decide) (.slice A5 to_.length c5) to_ rest B rest.length (c1 - 1) (fun k=>k≠w1.heap.size) rfl rfl ?aF ?aO ?aR ?aB ?aS ?aL ?_;(case aF=>exact fun k hk=>by omega);(case aO=>exact Kd.R_mono (Kd.R_bound HTO.out) fun k hk=>by have:=hk.2.1;omega);(case aR=>exact HRW.out);(case aB=>exact Below.refl _ _);(case aS=>exact hww);(case aL=>exact hlm);intro v2 w2 ho2 hb2 hg2 hat2;rw [HL2.out] at ho2;obtain ⟨A6,c6,rfl,hc6,hC6⟩:=Kd.R_reads ho2;have HO2:=Lib.hid ho2;have hs2:=hg2.size;have HT2:=Lib.hid ((hg2.block w.heap.size (blk_lt HTW.out) (fun e=>by have:=HNT.out _ e.symm;omega)).trans HTW.out);have HZ2:=Lib.hid ((hg2.block (w.heap.size+1) (blk_lt HZW.out) (fun e=>by have:=HNT.out _ e.symm;omega)).trans HZW.out);have HH2:=Lib.hid ((hg2.block w1.heap.size (blk_lt HHW.out) (fun e=>by have:=HNT.out _ e.symm;omega)).trans HHW.out);have hbw2:Below w.heap.size w w2:=hbc.trans (hb2.mono (by omega));clear ho2 hC6 hb2 hg2 hat2;have z0:=cell_of (j:=0) HZ2.out rfl;have u0:=unfr HZ2.out 0;have z1:=cell_of (j:=1) HZ2.out rfl;have u1:=unfr HZ2.out 1;have z2:=cell_of (j:=2) HZ2.out rfl;have u2:=unfr HZ2.out 2;have z3:=cell_of (j:=3) HZ2.out rfl;have u3:=unfr HZ2.out 3)
           have HZF:=store4_box HZ2.out (.string ⟨#[]⟩) (.int .u8 0) (.string ⟨#[]⟩) (.slice none 0 0)
           have HB9:=store4_below hbw2 (g:=w.heap.size+1) (by omega) (.string ⟨#[]⟩) (.int .u8 0) (.string ⟨#[]⟩) (.slice none 0 0)
           refine bodyPost_ret (results_tctt rfl _ _ (w.heap.size+1) 25 zC (0,0) _ rfl HZF Tryz.underlying25 rfl (by kernel_rfl)) rfl ?_
           rw [← HR10.out]
           exact ⟨none,0,none,0,rfl,Nat.le_refl _,Iv.all _ _ (fun W=>Kd.C_nil Kd.string W),Nat.le_refl _,Kd.C_nil FileK _,HB9⟩
          ·skip
           have k8:decide ((L2.length:Int) > 64)=false:=by simp;omega
           have k8r:¬ (64:Int)<(L2.length:Int):=by omega
           have HR10:=HR9.out
           rw [if_pos h64] at HR10
           replace HR10:=Lib.hid HR10
           clear HR9
           go_wp2_with (at_builtin;refine Kd.R_append_row Value.string ByteArray.empty (h1:=fun _=>rfl) (w0:=w23) WX.heap.size rfl (.tmp 95) (.tmp 96) 40 9 (.string ⟨#[]⟩) 16 rfl Tryz.underlying40 info_str rfl (by decide) (.slice A5 to_.length c5) to_ rest B rest.length (c1 - 1) (fun k=>k≠w1.heap.size) rfl rfl ?aF ?aO ?aR ?aB ?aS ?aL ?_;(case aF=>exact fun k hk=>by omega);(case aO=>exact Kd.R_mono (Kd.R_bound HTO.out) fun k hk=>by have:=hk.2.1;omega);(case aR=>exact HRW.out);(case aB=>exact Below.refl _ _);(case aS=>exact hww);(case aL=>exact hlm);intro v2 w2 ho2 hb2 hg2 hat2;rw [HL2.out] at ho2;obtain ⟨A6,c6,rfl,hc6,hC6⟩:=Kd.R_reads ho2;have HO2:=Lib.hid ho2;have hs2:=hg2.size;have HT2:=Lib.hid ((hg2.block w.heap.size (blk_lt HTW.out) (fun e=>by have:=HNT.out _ e.symm;omega)).trans HTW.out);have HZ2:=Lib.hid ((hg2.block (w.heap.size+1) (blk_lt HZW.out) (fun e=>by have:=HNT.out _ e.symm;omega)).trans HZW.out);have HH2:=Lib.hid ((hg2.block w1.heap.size (blk_lt HHW.out) (fun e=>by have:=HNT.out _ e.symm;omega)).trans HHW.out);have hbw2:Below w.heap.size w w2:=hbc.trans (hb2.mono (by omega));clear ho2 hC6 hb2 hg2 hat2)
           refine start_ (n:=3) (S:=fun w'=>w'.heap[w.heap.size]? = some (.cells (fc t A c) 25 (0,0))) (ds:=[2]) (bv 3 0) (by kernel_rfl) rfl rfl (show w2.drew.heap[w.heap.size]? = _ from HT2.out) (fun hHeld => ?_)
           refine pA 1 11 (bv 3 2) ?_
           refine tA 0 102 (bv 3 3) hHeld ?_ (hy:=by
            rintro w' hs
            have q0:=cell_of (j:=0) hs rfl
            have q1:=cell_of (j:=1) hs rfl
            have q2:=cell_of (j:=2) hs rfl
            have q3:=cell_of (j:=3) hs rfl
            go_simp
            with_reducible rfl)
           refine last_ (i:=2) (N:=none) (bv 3 7) rfl rfl (by kernel_rfl) (by decide) (fun K hK => ?_)
           obtain ⟨z0,z1,z2,z3⟩:=c4A HH2.out
           obtain ⟨u0,u1,u2,u3⟩:=u4A HH2.out
           refine sA ?_
           refine hK.out _ _ ?_
           refine done_ (by kernel_rfl) ?_
           have hst:=fun k (hk:k≠w1.heap.size)=>store4_other w2 (g:=w1.heap.size) (k:=k) hk (.string t.name) (.int .u8 t.kind) (.string t.data) (.slice A t.files.length c)
           have HH3:((((w2.setCell ⟨w1.heap.size,0,none⟩ (.string t.name)).setCell ⟨w1.heap.size,1,none⟩ (.int .u8 t.kind)).setCell ⟨w1.heap.size,2,none⟩ (.string t.data)).setCell ⟨w1.heap.size,3,none⟩ (.slice A t.files.length c)).drew.heap[w1.heap.size]? = _:=store4_box HH2.out (.string t.name) (.int .u8 t.kind) (.string t.data) (.slice A t.files.length c)
           have hb3:=bdrew (store4_below hbw2 (g:=w1.heap.size) (by omega) (.string t.name) (.int .u8 t.kind) (.string t.data) (.slice A t.files.length c))
           have HT3:((((w2.setCell ⟨w1.heap.size,0,none⟩ (.string t.name)).setCell ⟨w1.heap.size,1,none⟩ (.int .u8 t.kind)).setCell ⟨w1.heap.size,2,none⟩ (.string t.data)).setCell ⟨w1.heap.size,3,none⟩ (.slice A t.files.length c)).drew.heap[w.heap.size]? = _:=(hst _ (by omega)).trans HT2.out
           have HZ3:((((w2.setCell ⟨w1.heap.size,0,none⟩ (.string t.name)).setCell ⟨w1.heap.size,1,none⟩ (.int .u8 t.kind)).setCell ⟨w1.heap.size,2,none⟩ (.string t.data)).setCell ⟨w1.heap.size,3,none⟩ (.slice A t.files.length c)).drew.heap[w.heap.size+1]? = _:=(hst _ (by omega)).trans HZ2.out
           have HF3:=Kd.F_drew (Kd.F_step (W1:=((((w2.setCell ⟨w1.heap.size,0,none⟩ (.string t.name)).setCell ⟨w1.heap.size,1,none⟩ (.int .u8 t.kind)).setCell ⟨w1.heap.size,2,none⟩ (.string t.data)).setCell ⟨w1.heap.size,3,none⟩ (.slice A t.files.length c))) (Kd.F_mono (Kd.R_F HO2.out) (ok':=fun k=>True∧k≠w1.heap.size) fun k hk=>⟨trivial,hk⟩) fun k hk _=>hst k hk.2)
           have hg3:=blk_lt HH3
           go_wp2_with fail
           go_roundw
           case rel=>exact ⟨L2,[],t,L+1,A6,c6,A,c,rfl,by go_num,by omega,by simpa using h64,by show 0+P.sumP L2≤_;omega,hc6,Nat.le_refl _,hc,hb3,hg3,Lib.hid HT3,Lib.hid HZ3,Lib.hid HH3,HT,Lib.hid (Kd.R_nil _ _ _ _ _),Lib.hid (Kd.F_apart_nil HF3),Lib.hid (by rw [HMM.out];exact HR10.out)⟩
           case measure=>simp [RowKit.intOf,lenV];omega
end Go.Proofs.YthlcjjhfkldmhaaGreatDoor.G
end
section
namespace Go.Proofs.YthlcjjhfkldmhaaGreatDoor.G
open Go.RowKit Go.Lib Go.Proofs.YthlcjjhfkldmhaaGreatDoorW.PrintWords Go.Proofs.YthlcjjhfkldmhaaGreatDoorW.PrintLast
set_option linter.unusedVariables false
set_option linter.unusedSimpArgs false
theorem check_why (t:File):(checkR t).1=0∨(checkR t).1=30:=by
 unfold checkR
 split
 ·cases wrongN t.bulk t [] with
  | none=>exact .inl rfl
  | some b=>exact .inr rfl
 ·exact .inr rfl
end Go.Proofs.YthlcjjhfkldmhaaGreatDoor.G
end
section
namespace Go.Proofs.YthlcjjhfkldmhaaGreatDoor.G
open Go.RowKit Go.Lib Go.Proofs.YthlcjjhfkldmhaaGreatDoorW.PrintWords Go.Proofs.YthlcjjhfkldmhaaGreatDoorW.PrintLast
set_option linter.unusedVariables false
set_option linter.unusedSimpArgs false
set_option maxHeartbeats 8000000 in
set_option maxRecDepth 100000 in
theorem realF_calls (t:File) (A:Option Addr) (c:Nat) (Ap:Option Addr) (cp:Nat) (p:List ByteArray) (last:Bool) (w:World) (ht:FileK.C w A t.files.length t.files) (hc:t.files.length≤c) (hbt:t.bulk≤1099511627776) (hp:Kd.C Kd.string w Ap p.length p) (hcp:p.length≤cp) (hpl:p.length≤1099511627776) (hps:P.sumP p≤1099511627776) :
  Calls Tryz.prog 17 #[fileV t A c,.slice Ap p.length cp,.bool last] w fun e w'=>∃ B d,e=.returned (.tuple #[.slice B (realR t p last).1.length d,.int .i64 (realR t p last).2])∧(realR t p last).1.length≤d∧Kd.F Kd.string w' (fun k=>w.heap.size≤k) B (realR t p last).1.length (realR t p last).1∧Below w.heap.size w w':=by
 have hb0:=below_alloc (Below.refl w.heap.size w) (.cells (fc t A c) 25)
 have I:=Lib.hid (Hd.base hb0 (by first | exact Nat.le_refl _ | exact Below.size hb0))
 replace I:=Lib.hid (Hd.and I.out (Hd.box (blk_new w (.cells (fc t A c) 25))))
 replace I:=Lib.hid (Hd.and I.out (Hd.reads (Kd.C_below ht hb0)))
 replace I:=Lib.hid (Hd.and I.out (Hd.reads (Kd.C_below hp hb0)))
 have HCR:=Lib.hid (check_why t)
 obtain ⟨res,hres⟩:∃ r,realR t p last=r:=⟨_,rfl⟩
 rw [hres]
 unfold realR at hres
 have HR:=Lib.hid hres
 have HRT:Hid (rightT t=((checkR t).1 == 0)):=Lib.hid rfl
 clear hres ht hp
 go_enter Tryz.func17,Tryz.ntmps17
 unfold fileV
 obtain ⟨lt0,lt1,lt2,lt3⟩:=c4A I.out.now.2.2.1
 go_wp2_with fail
 clear lt0 lt1 lt2 lt3
 generalize (w.alloc (.cells (fc t A c) 25))=W0 at *
 refine ((show Calls Tryz.prog 20 #[.agg (fc t A c)] _ _ from check_calls t A c _ (by omega) I.out.now.2.1 hc)).mono ?_
 rintro e w1 ⟨v1,rfl,hR1,hq1⟩
 replace I:=Lib.hid (Hd.mv I.out hq1)
 obtain ⟨A1,c1,rfl,hc1,hC1⟩:=Kd.R_reads hR1
 clear hR1 hC1
 obtain ⟨why,hwhy⟩:∃ k,(checkR t).1=k:=⟨_,rfl⟩
 rw [hwhy] at HCR HRT ⊢
 clear hwhy
 by_cases hk:why=0
 rotate_left
 ·skip
  have k1:(why != 0)=true:=by rw [bne_iff_ne];exact hk
  have hrt:rightT t=false:=by rw [HRT.out];exact beq_eq_false_iff_ne.2 hk
  have HR1:=Lib.hid (show ([],30)=res from by have h:=HR.out;rw [if_neg (by rw [hrt];decide)] at h;exact h)
  obtain rfl:why=30:=HCR.out.resolve_left hk
  clear hk hrt
  go_wp2_with fail
  go_ret2
  rw [← HR1.out]
  exact ⟨none,0,rfl,Nat.le_refl _,Kd.F_nil Kd.string _ _,I.out.now.2.2.2⟩
 ·skip
  subst hk
  have hrt:rightT t=true:=by rw [HRT.out];rfl
  have HR1:=HR.out
  rw [if_pos hrt] at HR1
  replace HR1:=Lib.hid HR1
  clear hrt
  go_wp2_with fail
  refine (P.right_calls Ap cp p _ I.out.now.1 hcp (by omega) (by omega)).mono ?_
  rintro e w2 ⟨rfl,hq2⟩
  replace I:=Lib.hid (Hd.mv I.out hq2)
  cases hpr:P.rightB p
  ·skip
   have HR2:=Lib.hid (show ([],20)=res from by have h:=HR1.out;rw [if_neg (by rw [hpr];decide)] at h;exact h)
   go_wp2_with fail
   go_ret2
   rw [← HR2.out]
   exact ⟨none,0,rfl,Nat.le_refl _,Kd.F_nil Kd.string _ _,I.out.now.2.2.2⟩
  ·skip
   have HR2:=HR1.out
   rw [if_pos hpr] at HR2
   replace HR2:=Lib.hid HR2
   obtain ⟨lt0,lt1,lt2,lt3⟩:=c4A I.out.now.2.2.1
   go_wp2_with fail
   clear lt0 lt1 lt2 lt3
   refine ((show Calls Tryz.prog 37 #[.agg (fc t A c),.slice Ap p.length cp,.bool last] _ _ from walk_calls t A c Ap cp p last _ _ (Below.refl _ _) I.out.now.2.1 hc (by omega) I.out.now.1 hcp (by omega) (by omega))).mono ?_
   rintro e w3 ⟨B,d,A2,c2,rfl,hd,hD,hc2,hC2,hq3⟩
   replace I:=Lib.hid (Hd.mv I.out hq3)
   obtain ⟨⟨q,x,is,k⟩,hq⟩:∃ r,walkR t p last=r:=⟨_,rfl⟩
   have HR3:=HR2.out
   rw [hq] at HR3 hd hD hc2 hC2
   rw [hq]
   simp only at HR3 hd hD hc2 hC2 ⊢
   replace HR3:=Lib.hid HR3
   clear hq hC2
   have hFQ:Kd.F Kd.string w3 (fun k=>w.heap.size≤k) B q.length q:=fun W' hW=>hD W' fun k h1 h2=>hW k (by have e0:=hb0.size;have e1:=hq1.size;have e2:=hq2.size;omega) h2
   replace I:=Lib.hid (Hd.and I.out (Hd.F hFQ))
   clear hD hFQ
   have ha4:=below_alloc (Below.refl w3.heap.size w3) (.cells (fc x A2 c2) 25)
   replace I:=Lib.hid (Hd.mv I.out ha4)
   replace I:=Lib.hid (Hd.and I.out (Hd.box (blk_new w3 (.cells (fc x A2 c2) 25))))
   go_wp2_with fail
   go_ret2
   rw [← HR3.out]
   exact ⟨B,d,rfl,hd,I.out.now.2.1,I.out.now.2.2.2.2.2⟩
end Go.Proofs.YthlcjjhfkldmhaaGreatDoor.G
end
