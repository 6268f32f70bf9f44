import Derived.Test.YthlcjjhfkldmhaaGreatDoorKit
import Derived.Test.YthlcjjhfkldmhaaGreatDoorVAppend
set_option linter.unusedVariables false
set_option linter.unusedSimpArgs false
namespace Go.Proofs.YthlcjjhfkldmhaaGreatDoor.G
open Go.RowKit Go.Lib Go.Proofs.YthlcjjhfkldmhaaGreatDoorW.PrintWords Go.Proofs.YthlcjjhfkldmhaaGreatDoorW.PrintLast
set_option linter.unusedVariables false
set_option linter.unusedSimpArgs false
set_option maxHeartbeats 8000000 in
set_option maxRecDepth 100000 in
theorem new_calls (t:File) (A:Option Addr) (c:Nat) (Al:Option Addr) (cl:Nat) (l:List Int) (w:World) (ht:FileK.C w A t.files.length t.files) (hc:t.files.length≤c) (hbt:t.bulk≤1099511627776) (hl:Kd.C (Kd.int .i64) w Al l.length l) (hcl:l.length≤cl) (hll:l.length≤1099511627776) :
  Calls Tryz.prog 6 #[fileV t A c,.slice Al l.length cl] w fun e w'=>(rightT t=false∧e=.returned (.tuple #[.pointer none,.int .i64 30])∧Below w.heap.size w w')∨(rightT t=true∧∃ g,e=.returned (.tuple #[.pointer (some ⟨g,0,none⟩),.int .i64 0])∧FsAt w' g (fun k=>w.heap.size≤k∧k≠g∧k<w'.heap.size) none ⟨t,[],l⟩∧w.heap.size≤g∧Below w.heap.size w w'):=by
 have hb0:=below_alloc (Below.refl w.heap.size w) (.cells (fc t A c) 25)
 have I:=Lib.hid (Hd.base hb0 (by first | exact Nat.le_refl _ | exact Below.size hb0))
 replace I:=Lib.hid (Hd.and I.out (Hd.box (blk_new w (.cells (fc t A c) 25))))
 replace I:=Lib.hid (Hd.and I.out (Hd.reads (Kd.C_below ht hb0)))
 replace I:=Lib.hid (Hd.and I.out (Hd.reads (Kd.C_below hl hb0)))
 have HCR:=Lib.hid (check_why t)
 have HRT:Hid (rightT t=((checkR t).1 == 0)):=Lib.hid rfl
 have HL:=Lib.hid hl
 have hmm := @run_makeMap Tryz.prog
 clear ht hl
 go_enter Tryz.func6,Tryz.ntmps6
 unfold fileV
 obtain ⟨lt0,lt1,lt2,lt3⟩:=c4A I.out.now.2.2.1
 go_wp2_with fail
 clear lt0 lt1 lt2 lt3
 generalize (w.alloc (.cells (fc t A c) 25))=W0 at *
 refine ((show Calls Tryz.prog 20 #[.agg (fc t A c)] _ _ from check_calls t A c _ (by omega) I.out.now.2.1 hc)).mono ?_
 rintro e w1 ⟨v1,rfl,hR1,hq1⟩
 replace I:=Lib.hid (Hd.mv I.out hq1)
 obtain ⟨A1,c1,rfl,hc1,hC1⟩:=Kd.R_reads hR1
 clear hR1 hC1
 obtain ⟨why,hwhy⟩:∃ k,(checkR t).1=k:=⟨_,rfl⟩
 rw [hwhy] at HCR HRT ⊢
 clear hwhy
 by_cases hk:why=0
 rotate_left
 ·skip
  have k1:(why != 0)=true:=by rw [bne_iff_ne];exact hk
  have HRT1:=Lib.hid (show rightT t=false by rw [HRT.out];exact beq_eq_false_iff_ne.2 hk)
  obtain rfl:why=30:=HCR.out.resolve_left hk
  clear hk
  go_wp2_with fail
  go_ret2
  exact .inl ⟨HRT1.out,rfl,I.out.now.2.2.2⟩
 ·skip
  subst hk
  have HRT1:=Lib.hid (show rightT t=true by rw [HRT.out];rfl)
  obtain ⟨lt0,lt1,lt2,lt3⟩:=c4A I.out.now.2.2.1
  go_wp2_with fail
  clear lt0 lt1 lt2 lt3
  have hlo0:=Below.size I.out.now.2.2.2
  refine ((show Calls Tryz.prog 21 #[.agg (fc t A c)] _ _ from copy_file t.bulk t A c _ (Nat.le_refl _) (by omega) I.out.now.2.1 hc)).mono ?_
  rintro e w2 ⟨v2,rfl,hR2,hq2⟩
  replace I:=Lib.hid (Hd.mv I.out hq2)
  obtain ⟨A2,c2,rfl,hc2,hC2⟩:=Kd.R_reads hR2
  have HIV:=Lib.hid (Iv.of_R hR2)
  clear hC2 hR2
  have hbk:=I.out.now.2.2.2
  have hqk:=hq2.size
  obtain ⟨Wm,hWm⟩:∃ W,w2.alloc (.map #[] 0)=W:=⟨_,rfl⟩
  have hbm:Below w2.heap.size w2 Wm:=by rw [← hWm];exact below_alloc (Below.refl _ _) _
  have hFm:Faulted Wm w2.heap.size []:=by rw [← hWm];exact Faulted.made _
  have hsm:Wm.heap.size=w2.heap.size+1:=by rw [← hWm];simp
  have hsm2:w2.heap.size<Wm.heap.size:=by omega
  have HSM:=Lib.hid hsm
  clear hsm
  have hbf:=below_alloc (Below.refl Wm.heap.size Wm) (.cells (fsCells t A2 c2 (.slice none 0 0) w2.heap.size) 68)
  have HFS:=Lib.hid (blk_new Wm (.cells (fsCells t A2 c2 (.slice none 0 0) w2.heap.size) 68))
  unfold fsCells at hbf HFS
  go_wp2_with fail
  have hF2:=Lib.hid (hFm.mv (hbf.block _ hsm2))
  have hbw2:=bstep (bstep hbk (Below.size hbk) hbm) (Below.size (bstep hbk (Below.size hbk) hbm)) hbf
  have hIV2:=Lib.hid (HIV.out.mv (w':=Wm.alloc (.cells #[.string t.name,.int .u8 t.kind,.string t.data,.slice A2 t.files.length c2,.slice none 0 0,.map (some w2.heap.size)] 68)) fun k _ h2=>(hbf.block k (by omega)).trans (hbm.block k h2))
  have hg2:=blk_lt HFS.out
  have hlo:w.heap.size≤w1.heap.size:=hlo0
  clear hFm hWm hbf hbm HIV
  generalize Wm.alloc (.cells #[.string t.name,.int .u8 t.kind,.string t.data,.slice A2 t.files.length c2,.slice none 0 0,.map (some w2.heap.size)] 68)=W2 at *
  go_loopw [26] (fun i wr=>∃ k:Nat,k≤l.length∧i=.int .i64 k∧Below w.heap.size w wr∧Wm.heap.size<wr.heap.size∧Hid (wr.heap[Wm.heap.size]? = some (.cells #[.string t.name,.int .u8 t.kind,.string t.data,.slice A2 t.files.length c2,.slice none 0 0,.map (some w2.heap.size)] 68 (0,0)))∧Hid (Faulted wr w2.heap.size (l.take k))∧Hid (Iv w1.heap.size w2.heap.size wr (fun W=>FileK.C W A2 t.files.length t.files))) (fun i _=>l.length - (RowKit.intOf i).toNat)
  case atStart=>exact ⟨0,by omega,rfl,hbw2,hg2,HFS,hF2,hIV2⟩
  case round =>
   clear hF2 hbw2 hIV2 hg2 HFS
   obtain ⟨k,hk,rfl,hb,hgl,HFS,HF,HIV⟩:=hrel
   by_cases hlt:k<l.length
   ·obtain ⟨ad,rfl,hx⟩:=Kd.at_int HL.out (k:Int) (by omega) (by omega)
    rw [Int.toNat_natCast] at hx
    have hx2:=(hb.cell (World.block_lt_of_cell? w _ hx)).trans hx
    obtain ⟨z,hz⟩:∃ z,rd l (k:Int)=z:=⟨_,rfl⟩
    rw [hz] at hx2
    have hzl:l[k]=z:=by rw [← hz];simp [rd,hlt]
    have HZL:=Lib.hid (show ∀ n,n∈z :: l.take k↔n∈l.take (k+1) from fun n=>by
     rw [List.take_succ_eq_append_getElem hlt,hzl,List.mem_append,List.mem_cons,List.mem_singleton]
     exact or_comm)
    clear hx hz hzl
    obtain ⟨o,hup,hF⟩:=fault_update HF.out z
    have HF1:=Lib.hid hF
    have hgm:Wm.heap.size≠w2.heap.size:=by omega
    have HFS1:=Lib.hid ((World.putObj_heap_other (o:=o) hgm).trans HFS.out)
    have HIV1:=Lib.hid (HIV.out.mv (w':=wr.putObj w2.heap.size o) fun j _ h2=>World.putObj_heap_other (by omega))
    have f5:=cell_of (j:=5) HFS.out rfl
    have hbp:=bput hb (k:=w2.heap.size) (by have:=hbk.size;omega) o
    have hsp:Wm.heap.size<(wr.putObj w2.heap.size o).heap.size:=by simpa [World.putObj] using hgl
    have g1:(k:Int)<(l.length:Int):=by omega
    clear hF HF HFS HIV
    go_wp2_with fail
    go_roundw
    case rel=>exact ⟨k+1,by omega,by go_num,hbp,hsp,HFS1,Lib.hid (HF1.out.iff HZL.out),HIV1⟩
    case measure=>simp [RowKit.intOf];omega
   ·obtain rfl:k=l.length:=by omega
    go_wp2_with fail
    go_ret2
    refine .inr ⟨HRT1.out,Wm.heap.size,rfl,⟨A2,c2,.slice none 0 0,w2.heap.size,w1.heap.size,w2.heap.size,HFS.out,hc2,HIV.out,fun j h1 h2=>⟨⟨by omega,by omega,by omega⟩,by omega,by simp⟩,Kd.R_nil _ _ _ _ _,rfl,by have:=HF.out;rwa [List.take_length] at this,⟨by have:=hbk.size;omega,by omega,by omega⟩,fun j h=>h.2.2⟩,by have:=hbk.size;omega,hb⟩
end Go.Proofs.YthlcjjhfkldmhaaGreatDoor.G
