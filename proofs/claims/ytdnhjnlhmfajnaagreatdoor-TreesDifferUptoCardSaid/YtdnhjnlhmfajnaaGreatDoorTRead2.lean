import Derived.Test.YtdnhjnlhmfajnaaGreatDoorKit
import Derived.Test.YtdnhjnlhmfajnaaGreatDoorSq
import Derived.Test.YtdnhjnlhmfajnaaGreatDoorTKept
import Derived.Maps.AppendAt
import Derived.Deep.CutRange
set_option linter.unusedVariables false
set_option linter.unusedSimpArgs false
namespace Go.Proofs.YtdnhjnlhmfajnaaGreatDoor.G
open Go.RowKit Go.Lib Go.Proofs.YtdnhjnlhmfajnaaGreatDoorW.PrintWords Go.Proofs.YtdnhjnlhmfajnaaGreatDoorW.PrintLast
set_option linter.unusedVariables false
set_option linter.unusedSimpArgs false
set_option maxHeartbeats 8000000 in
set_option maxRecDepth 100000 in
theorem ReadL_calls (s:ByteArray) (w:World) (hs:s.size≤137438953472) (hlz:∀ x∈linesP s.data.toList,x.1.size≤100000000) (hG:Tab w) (hM:Maxed w) :
  Calls Tryz.prog 11 #[.string s] w fun e w'=>∃ A c,e=.returned (.tuple #[.agg #[.string (treeR s).1.name,.int .u8 (treeR s).1.kind,.string (treeR s).1.data,.slice A (treeR s).1.files.length c],.int .i64 (treeR s).2.1,.agg #[.int .i64 (treeR s).2.2.1,.int .i64 (treeR s).2.2.2]])∧(treeR s).1.files.length≤c∧FileK.C w' A (treeR s).1.files.length (treeR s).1.files∧Below w.heap.size w w':=by
 have HG:=Lib.hid hG
 have HM:=Lib.hid hM
 obtain ⟨L,hL⟩:∃ L,linesP s.data.toList=L:=⟨_,rfl⟩
 obtain ⟨R,hR⟩:∃ R,treeR s=R:=⟨_,rfl⟩
 rw [hR]
 rw [treeR,hL] at hR
 have HR:=Lib.hid hR
 have HCL:Hid (cost L≤6 * s.size∧L.length≤s.size):=Lib.hid (by rw [← hL,Lib.size_eq];exact lines_cost _ _ (Nat.le_refl _))
 have HSP:=Lib.hid (fun W h=>split_calls s W (by omega) h)
 rw [hL] at HSP hlz
 have HLZ:=Lib.hid hlz
 clear hlz
 have HRD:=Lib.hid (fun x W h1 h2 h3=>read_calls x W h1 h2 h3)
 have HPX:=Lib.hid (fun x W=>Tryz.strings_HasPrefix x ⟨#[35]⟩ W)
 clear hG hM hL hR
 go_enter Tryz.func11,Tryz.ntmps11
 have z5:=three_boxes w zC #[.int .i64 0,.int .i64 0] #[.string ⟨#[]⟩,.int .u8 1,.string ⟨#[]⟩,.slice none 0 0] 25 30 25
 have z24:=two_boxes w zC #[.int .i64 0,.int .i64 0] 25 30
 have z2:=(Below.heap_alloc _ (.cells #[.string ⟨#[]⟩,.int .u8 1,.string ⟨#[]⟩,.slice none 0 0] 25) w.heap.size (by simp;omega)).trans z24.1
 have z4:=(Below.heap_alloc _ (.cells #[.string ⟨#[]⟩,.int .u8 1,.string ⟨#[]⟩,.slice none 0 0] 25) (w.heap.size+1) (by simp)).trans z24.2
 have hb3:=((below_alloc (Below.refl w.heap.size w) (.cells zC 25)).alloc (by simp) (.cells #[.int .i64 0,.int .i64 0] 30)).alloc (by simp;omega) (.cells #[.string ⟨#[]⟩,.int .u8 1,.string ⟨#[]⟩,.slice none 0 0] 25)
 have hz3:w.heap.size+2<(((w.alloc (.cells zC 25)).alloc (.cells #[.int .i64 0,.int .i64 0] 30)).alloc (.cells #[.string ⟨#[]⟩,.int .u8 1,.string ⟨#[]⟩,.slice none 0 0] 25)).heap.size:=by simp
 clear z24
 go_wp2_with fail
 generalize (((w.alloc (.cells zC 25)).alloc (.cells #[.int .i64 0,.int .i64 0] 30)).alloc (.cells #[.string ⟨#[]⟩,.int .u8 1,.string ⟨#[]⟩,.slice none 0 0] 25))=W3 at *
 refine (HSP.out W3 (Maxed_below HM.out hb3)).mono ?_
 rintro e w2 ⟨vL,rfl,hoL,hb2⟩
 have hs2:=hb2.size
 have hb2w:=hb3.trans (hb2.mono (by omega))
 have HHD:Hid (Held (w.heap.size+2) (w.heap.size+3) rootF (.slice none 0 0) [] w2):=Lib.hid ⟨(hb2.block _ (by omega)).trans z5,by rw [FT_eq];exact .inl ⟨rfl,rfl,rfl⟩,List.nodup_nil,by omega⟩
 have HZ2:=Lib.hid ((hb2.block w.heap.size (by omega)).trans z2)
 have HZ4:=Lib.hid ((hb2.block (w.heap.size+1) (by omega)).trans z4)
 have HLR:Hid (LineK.R 83 w2 (w.heap.size+3) (Off (w.heap.size+2) []) vL L):=Lib.hid (Kd.R_lower (Kd.R_mono (Kd.R_bound hoL) fun j hj=>⟨by simp,by have:=hj.2.1;omega⟩) (by omega))
 obtain ⟨AL,cL,rfl,hcL,_⟩:=Kd.R_reads hoL
 have hLl:=HCL.out.2
 have hrb:rootF.bulk=4:=by rw [bulk_eq];rfl
 clear z5 z2 z4 hoL hb2 hb3 HSP
 go_wp2_with fail
 go_loopw [6,17] (fun vl vi wr=>∃ (k:Nat) (t:File) (last:List ByteArray) (u v:Value) (bl:List Nat),k≤L.length∧vi=.int .i64 k∧u=vl∧Below w.heap.size w wr∧Hid (Held (w.heap.size+2) (w.heap.size+3) t v bl wr)
  ∧ Hid (wr.heap[w.heap.size]? = some (.cells zC 25 (0,0)))∧Hid (wr.heap[w.heap.size+1]? = some (.cells #[.int .i64 0,.int .i64 0] 30 (0,0)))
  ∧ Hid (LineK.R 83 wr (w.heap.size+3) (Off (w.heap.size+2) bl) (.slice AL L.length cL) L)∧Hid (Kd.R Kd.string 9 wr (w.heap.size+3) (Off (w.heap.size+2) bl) u last)∧Hid (last=[]→u=.slice none 0 0)
  ∧ Hid (Good t last)∧last.length≤64∧Hid (t.bulk+cost (L.drop k)≤4+cost L)∧Hid (readAll (L.drop k) k t last=R)) (fun _ vi _=>L.length - (RowKit.intOf vi).toNat)
 case atStart=>exact ⟨0,rootF,[],_,.slice none 0 0,[],by omega,rfl,rfl,hb2w,HHD,HZ2,HZ4,HLR,Lib.hid (Kd.R_nil _ _ _ _ _),Lib.hid fun _=>rfl,Lib.hid good_root,by simp,Lib.hid (by rw [List.drop_zero];omega),HR⟩
 case round =>
  obtain ⟨k,t,last,u,v,bl,hk,rfl,rfl,hb,HHD,HZ2,HZ4,HLR,HU,HUN,HGD,hl64,HBK,HRA⟩:=hrel
  have hsz:=hb.size
  by_cases hlt:k<L.length
  ·obtain ⟨ad,hAL,p1,p2⟩:=line_at (Kd.R_reads' HLR.out).2.2 k hlt
   subst hAL
   have hdr:=List.drop_eq_getElem_cons hlt
   have hcd:=cost_drop hlt
   have HDR:=Lib.hid hdr
   have HCD:=Lib.hid hcd
   clear hdr hcd
   have htx:=HLZ.out _ (List.getElem_mem hlt)
   generalize L[k]=ln at *
   obtain ⟨tx,tb⟩:=ln
   simp only at p1 p2 HCD htx
   have g1:(k:Int)<(L.length:Int):=by omega
   have hb8:=below_alloc (Below.refl wr.heap.size wr) (.cells #[.string tx,.bool tb] 83)
   have hn8:=blk_new wr (.cells #[.string tx,.bool tb] 83)
   have hbx:=blk_lt HHD.out.box
   have HHD8:=Lib.hid (HHD.out.below hb8)
   have HZ28:=Lib.hid ((hb8.block w.heap.size (by omega)).trans HZ2.out)
   have HZ48:=Lib.hid ((hb8.block (w.heap.size+1) (by omega)).trans HZ4.out)
   have HLR8:=Lib.hid (Kd.R_below HLR.out hb8)
   have HU8:=Lib.hid (Kd.R_below HU.out hb8)
   have hz8:wr.heap.size<(wr.alloc (.cells #[.string tx,.bool tb] 83)).heap.size:=by simp
   have hmv:∀ {p:Addr} {v:Value},wr.cell? p=some v→(wr.alloc (.cells #[.string tx,.bool tb] 83)).cell? p=some v:=fun h=>(hb8.cell (World.block_lt_of_cell? wr _ h)).trans h
   cases he:tx.toList.isEmpty
   ·cases hp:Lib.hasPrefix tx.data.toList (⟨#[35]⟩:ByteArray).data.toList
    ·go_wp2_with fail
     generalize wr.alloc (.cells #[.string tx,.bool tb] 83)=W8 at *
     refine (HPX.out tx W8).mono ?_
     rintro e w8 ⟨rfl,hw8⟩
     rw [hw8,hp]
     clear hw8
     have y0:=cell_of (j:=0) hn8 rfl
     have HRX:=Lib.hid (HRD.out tx W8 (by omega) (Tab_b HG.out (bstep hb hsz hb8)) (Maxed_below HM.out (bstep hb hsz hb8)))
     go_wp2_with fail
     refine HRX.out.mono ?_
     rintro e w9 ⟨rfl,hb9⟩
     have hs9:=hb9.size
     have hbx8:=blk_lt HHD8.out.box
     have HHD9:=Lib.hid (HHD8.out.below hb9)
     have HZ29:=Lib.hid ((hb9.block w.heap.size (by omega)).trans HZ28.out)
     have HZ49:=Lib.hid ((hb9.block (w.heap.size+1) (by omega)).trans HZ48.out)
     have HLR9:=Lib.hid (Kd.R_below HLR8.out hb9)
     have HU9:=Lib.hid (Kd.R_below HU8.out hb9)
     have hb9w:=bstep (bstep hb hsz hb8) (bstep hb hsz hb8).size hb9
     have hbr:=below_alloc (Below.refl w9.heap.size w9) (.cells #[.string ⟨#[]⟩,.int .u8 (readR tx).kind,.string (readR tx).data,.slice none 0 0,.string (readR tx).path,.int .i64 (readR tx).rule] 86)
     have hnr:=blk_new w9 (.cells #[.string ⟨#[]⟩,.int .u8 (readR tx).kind,.string (readR tx).data,.slice none 0 0,.string (readR tx).path,.int .i64 (readR tx).rule] 86)
     have hzr:w9.heap.size<(w9.alloc (.cells #[.string ⟨#[]⟩,.int .u8 (readR tx).kind,.string (readR tx).data,.slice none 0 0,.string (readR tx).path,.int .i64 (readR tx).rule] 86)).heap.size:=by simp
     have hbx9:=blk_lt HHD9.out.box
     have HHDa:=Lib.hid (HHD9.out.below hbr)
     have HZ2a:=Lib.hid ((hbr.block w.heap.size (by omega)).trans HZ29.out)
     have HZ4a:=Lib.hid ((hbr.block (w.heap.size+1) (by omega)).trans HZ49.out)
     have HLRa:=Lib.hid (Kd.R_below (Kd.R_mono (Kd.R_bound HLR9.out) (ok':=fun j=>Off (w.heap.size+2) bl j∧j<w9.heap.size) fun j hj=>⟨hj.1,hj.2.2.1⟩) hbr)
     have HBL:=Lib.hid (FT_lt _ _ w9 _ _ HHD9.out.ft)
     have HUa:=Lib.hid (Kd.R_below HU9.out hbr)
     have hbaw:=bstep hb9w hb9w.size hbr
     clear HHD HZ2 HZ4 HLR HU HHD8 HZ28 HZ48 HLR8 HU8 HHD9 HZ29 HZ49 HLR9 HU9 p1 p2 hmv y0 HRX
     have HLI:Hid (lineR t last tx=lineR t last tx):=Lib.hid rfl
     have HRT:Hid (∃ rr:RowR,rr=readR tx):=Lib.hid ⟨_,rfl⟩
     generalize hrr:readR tx=rr at *
     go_upto_if 35 with fail
     generalize w9.alloc (.cells #[.string ⟨#[]⟩,.int .u8 rr.kind,.string rr.data,.slice none 0 0,.string rr.path,.int .i64 rr.rule] 86)=Wa at *
     have HRR:=Lib.hid hrr
     clear hrr
     go_cut [10] from 32 to 94 (fun vp wc=>∃ (nm:ByteArray) (rk:Int) (u2:Value),u2=vp∧Hid (wc.heap[w9.heap.size]? = some (.cells #[.string nm,.int .u8 rr.kind,.string rr.data,.slice none 0 0,.string rr.path,.int .i64 rk] 86 (0,0)))
      ∧ Hid (wc.heap[w.heap.size]? = some (.cells zC 25 (0,0)))∧Hid (wc.heap[w.heap.size+1]? = some (.cells #[.int .i64 0,.int .i64 0] 30 (0,0)))
      ∧ Below w.heap.size w wc∧((0<rk∧Hid ((lineR t last tx).1=rk))∨(rk=0∧∃ (t2:File) (p2:List ByteArray) (v2:Value) (bl2:List Nat),Hid (lineR t last tx=(0,t2,p2))∧p2≠[]∧p2.length≤64∧Hid (Held (w.heap.size+2) (w.heap.size+3) t2 v2 bl2 wc)
       ∧ Hid (LineK.R 83 wc (w.heap.size+3) (Off (w.heap.size+2) bl2) (.slice (some ad) L.length cL) L)∧Hid (Kd.R Kd.string 9 wc (w.heap.size+3) (Off (w.heap.size+2) bl2) u2 p2)∧Hid (Good t2 p2)∧Hid (t2.bulk≤t.bulk+(4+2 * tx.size)))))
     case rest =>
      obtain ⟨nm,rk,u2,rfl,HRW,HZ2c,HZ4c,hbc,hAB⟩:=hcut
      have y5:wc.cell? ⟨w9.heap.size,5,none⟩=some (.int .i64 rk):=cell_of HRW.out rfl
      have hsk:skipB tx=false:=by rw [skipB,he,show ([35]:List UInt8)=(⟨#[35]⟩:ByteArray).data.toList from rfl,hp];rfl
      have hra:=HRA.out
      rw [HDR.out,readAll,if_neg (by rw [hsk];decide)] at hra
      have hbk:=HBK.out
      rw [HCD.out] at hbk
      rcases hAB with ⟨hrk,HL1⟩ | ⟨rfl,t2,p2,v2,bl2,HL1,hp2,hp64,HHDc,HLRc,HUc,HGDc,HBc⟩
      ·have hr0:¬ ((lineR t last tx).1=0):=by rw [HL1.out];omega
       rw [if_neg hr0,HL1.out] at hra
       have HRF:=Lib.hid hra
       have q0:∀ j,wc.frozen? ⟨w.heap.size,j,none⟩=false:=fun j=>by simp [World.frozen?,HZ2c.out]
       have q00:=q0 0
       have q01:=q0 1
       have q02:=q0 2
       have q03:=q0 3
       have f0:∀ j,wc.frozen? ⟨w.heap.size+1,j,none⟩=false:=fun j=>by simp [World.frozen?,HZ4c.out]
       have f00:=f0 0
       have f01:=f0 1
       obtain ⟨d0,d1,d2,d3⟩:=c4A HZ2c.out
       obtain ⟨e0,e1⟩:=c2A HZ4c.out
       have hn9:w.heap.size+2<w9.heap.size:=hbx9
       have HW1:Hid (∀ W1,W1=(((wc.setCell ⟨w.heap.size,0,none⟩ (.string ⟨#[]⟩)).setCell ⟨w.heap.size,1,none⟩ (.int .u8 0)).setCell ⟨w.heap.size,2,none⟩ (.string ⟨#[]⟩)).setCell ⟨w.heap.size,3,none⟩ (.slice none 0 0)→W1=W1):=Lib.hid fun _ _=>rfl
       have HRW1:Hid (((((wc.setCell ⟨w.heap.size,0,none⟩ (.string ⟨#[]⟩)).setCell ⟨w.heap.size,1,none⟩ (.int .u8 0)).setCell ⟨w.heap.size,2,none⟩ (.string ⟨#[]⟩)).setCell ⟨w.heap.size,3,none⟩ (.slice none 0 0)).heap[w9.heap.size]? = some (.cells #[.string nm,.int .u8 rr.kind,.string rr.data,.slice none 0 0,.string rr.path,.int .i64 rk] 86 (0,0))):=Lib.hid (by
        rw [Below.heap_setCell _ _ _ _ (by simp only;omega),Below.heap_setCell _ _ _ _ (by simp only;omega),Below.heap_setCell _ _ _ _ (by simp only;omega),Below.heap_setCell _ _ _ _ (by simp only;omega)];exact HRW.out)
       have HN21:Hid (((((wc.setCell ⟨w.heap.size,0,none⟩ (.string ⟨#[]⟩)).setCell ⟨w.heap.size,1,none⟩ (.int .u8 0)).setCell ⟨w.heap.size,2,none⟩ (.string ⟨#[]⟩)).setCell ⟨w.heap.size,3,none⟩ (.slice none 0 0)).heap[w.heap.size]? = some (.cells zC 25 (0,0))) :=
        Lib.hid (blk_put (cs:=zC) (blk_put (cs:=zC) (blk_put (cs:=zC) (blk_put (cs:=zC) HZ2c.out 0 _ rfl) 1 _ rfl) 2 _ rfl) 3 _ rfl)
       have HN41:Hid (((((wc.setCell ⟨w.heap.size,0,none⟩ (.string ⟨#[]⟩)).setCell ⟨w.heap.size,1,none⟩ (.int .u8 0)).setCell ⟨w.heap.size,2,none⟩ (.string ⟨#[]⟩)).setCell ⟨w.heap.size,3,none⟩ (.slice none 0 0)).heap[w.heap.size+1]? = some (.cells #[.int .i64 0,.int .i64 0] 30 (0,0))):=Lib.hid (by
        rw [Below.heap_setCell _ _ _ _ (by simp only;omega),Below.heap_setCell _ _ _ _ (by simp only;omega),Below.heap_setCell _ _ _ _ (by simp only;omega),Below.heap_setCell _ _ _ _ (by simp only;omega)];exact HZ4c.out)
       have HB1:Hid (Below w.heap.size w ((((wc.setCell ⟨w.heap.size,0,none⟩ (.string ⟨#[]⟩)).setCell ⟨w.heap.size,1,none⟩ (.int .u8 0)).setCell ⟨w.heap.size,2,none⟩ (.string ⟨#[]⟩)).setCell ⟨w.heap.size,3,none⟩ (.slice none 0 0))) :=
        Lib.hid ((((hbc.setCell (p:=⟨w.heap.size,0,none⟩) (Nat.le_refl _) _).setCell (p:=⟨w.heap.size,1,none⟩) (Nat.le_refl _) _).setCell (p:=⟨w.heap.size,2,none⟩) (Nat.le_refl _) _).setCell (p:=⟨w.heap.size,3,none⟩) (Nat.le_refl _) _)
       clear q0 f0 hra hbk HRA HBK
       go_wp2_with fail
       have HRW2:Hid (∀ z0 z1:Value,((((((wc.setCell ⟨w.heap.size,0,none⟩ (.string ⟨#[]⟩)).setCell ⟨w.heap.size,1,none⟩ (.int .u8 0)).setCell ⟨w.heap.size,2,none⟩ (.string ⟨#[]⟩)).setCell ⟨w.heap.size,3,none⟩ (.slice none 0 0)).setCell ⟨w.heap.size+1,0,none⟩ z0).setCell ⟨w.heap.size+1,1,none⟩ z1).heap[w9.heap.size]? = some (.cells #[.string nm,.int .u8 rr.kind,.string rr.data,.slice none 0 0,.string rr.path,.int .i64 rk] 86 (0,0))):=Lib.hid (fun z0 z1=>by
        rw [Below.heap_setCell _ _ _ _ (by simp only;omega),Below.heap_setCell _ _ _ _ (by simp only;omega)];exact HRW1.out)
       have HN22:Hid (∀ z0 z1:Value,((((((wc.setCell ⟨w.heap.size,0,none⟩ (.string ⟨#[]⟩)).setCell ⟨w.heap.size,1,none⟩ (.int .u8 0)).setCell ⟨w.heap.size,2,none⟩ (.string ⟨#[]⟩)).setCell ⟨w.heap.size,3,none⟩ (.slice none 0 0)).setCell ⟨w.heap.size+1,0,none⟩ z0).setCell ⟨w.heap.size+1,1,none⟩ z1).heap[w.heap.size]? = some (.cells zC 25 (0,0))):=Lib.hid (fun z0 z1=>by
        rw [Below.heap_setCell _ _ _ _ (by simp only;omega),Below.heap_setCell _ _ _ _ (by simp only;omega)];exact HN21.out)
       have HN42:Hid (∀ z0 z1:Value,((((((wc.setCell ⟨w.heap.size,0,none⟩ (.string ⟨#[]⟩)).setCell ⟨w.heap.size,1,none⟩ (.int .u8 0)).setCell ⟨w.heap.size,2,none⟩ (.string ⟨#[]⟩)).setCell ⟨w.heap.size,3,none⟩ (.slice none 0 0)).setCell ⟨w.heap.size+1,0,none⟩ z0).setCell ⟨w.heap.size+1,1,none⟩ z1).heap[w.heap.size+1]? = some (.cells #[z0,z1] 30 (0,0))):=Lib.hid (fun z0 z1=>blk_put (cs:=#[z0,.int .i64 0]) (blk_put (cs:=#[.int .i64 0,.int .i64 0]) HN41.out 0 _ rfl) 1 _ rfl)
       have HB2:Hid (∀ z0 z1:Value,Below w.heap.size w ((((((wc.setCell ⟨w.heap.size,0,none⟩ (.string ⟨#[]⟩)).setCell ⟨w.heap.size,1,none⟩ (.int .u8 0)).setCell ⟨w.heap.size,2,none⟩ (.string ⟨#[]⟩)).setCell ⟨w.heap.size,3,none⟩ (.slice none 0 0)).setCell ⟨w.heap.size+1,0,none⟩ z0).setCell ⟨w.heap.size+1,1,none⟩ z1)):=Lib.hid (fun z0 z1=>(HB1.out.setCell (p:=⟨w.heap.size+1,0,none⟩) (by simp only;omega) _).setCell (p:=⟨w.heap.size+1,1,none⟩) (by simp only;omega) _)
       have hwk:=IntWalk.wrap64_in ((k:Int)+1) ⟨by omega,by omega⟩
       refine start_ (n:=9) (S:=fun w'=>w'.cell? ⟨w9.heap.size,5,none⟩=some (.int .i64 rk)) (ds:=[]) #[false,false,false,false,false,false,false,false,false] (by kernel_rfl) rfl rfl y5 (fun hHeld => ?_)
       refine pA 0 98 #[true,false,false,false,false,false,false,false,false] ?_
       refine pA 1 99 #[true,true,false,false,false,false,false,false,false] ?_
       refine pA 2 100 #[true,true,true,false,false,false,false,false,false] ?_
       refine pA 3 101 #[true,true,true,true,false,false,false,false,false] ?_
       refine tA 4 102 #[true,true,true,true,true,false,false,false,false] hHeld ?_ (hy:=by
        rintro w' s0
        go_simp
        with_reducible rfl)
       refine pA 5 103 #[true,true,true,true,true,true,false,false,false] ?_
       refine one_ (i:=6) (N:=none) #[true,true,true,true,true,true,true,false,false] rfl rfl (by kernel_rfl) (by decide) (fun K hK => ?_)
       refine sA ?_
       refine hK.out _ _ (cell_of HRW1.out rfl) (fun hHeld => ?_)
       refine pA 7 3 #[true,true,true,true,true,true,true,true,false] ?_
       refine one_ (i:=8) (N:=none) #[true,true,true,true,true,true,true,true,true] rfl rfl (by kernel_rfl) (by decide) (fun K hK => ?_)
       refine sA ?_
       have HRW3:=Lib.hid (HRW2.out (.int .i64 ((k:Int)+1)) (.int .i64 rk))
       have HN23:=Lib.hid (HN22.out (.int .i64 ((k:Int)+1)) (.int .i64 rk))
       have HN43:=Lib.hid (HN42.out (.int .i64 ((k:Int)+1)) (.int .i64 rk))
       have HB3:=Lib.hid (HB2.out (.int .i64 ((k:Int)+1)) (.int .i64 rk))
       clear HRW2 HN22 HN42 HB2
       generalize ((((((wc.setCell ⟨w.heap.size,0,none⟩ (.string ⟨#[]⟩)).setCell ⟨w.heap.size,1,none⟩ (.int .u8 0)).setCell ⟨w.heap.size,2,none⟩ (.string ⟨#[]⟩)).setCell ⟨w.heap.size,3,none⟩ (.slice none 0 0)).setCell ⟨w.heap.size+1,0,none⟩ (.int .i64 ((k:Int)+1))).setCell ⟨w.heap.size+1,1,none⟩ (.int .i64 rk))=W2 at *
       refine hK.out _ _ (show W2.cell? _=_ from cell_of HRW3.out rfl) (fun hHeld => ?_)
       refine done_ (by kernel_rfl) ?_
       go_wp2_with fail
       refine bodyPost_ret (results_cc rfl _ W2.drew w.heap.size (w.heap.size+1) 25 30 zC #[.int .i64 ((k:Int)+1),.int .i64 rk] (0,0) (0,0) _ _ rfl rfl HN23.out HN43.out Tryz.underlying25 Tryz.underlying30 rfl rfl (by kernel_rfl) (by kernel_rfl)) rfl ?_
       rw [← HRF.out]
       exact ⟨none,0,rfl,Nat.le_refl _,Kd.C_nil FileK _,bdrew HB3.out⟩
      ·rw [if_pos (by rw [HL1.out]),HL1.out] at hra
       have HRN:=Lib.hid hra
       have HBN:Hid (t2.bulk+cost (L.drop (k+1))≤4+cost L):=Lib.hid (by have:=HBc.out;omega)
       clear hra hbk HRA HBK
       go_wp2_with fail
       go_roundw
       case rel=>exact ⟨k+1,t2,p2,_,v2,bl2,by omega,by go_num,rfl,hbc,HHDc,HZ2c,HZ4c,HLRc,HUc,Lib.hid (fun h=>absurd h hp2),HGDc,hp64,HBN,HRN⟩
       case measure=>simp [RowKit.intOf];omega
     case first =>
      have r4:Wa.cell? ⟨w9.heap.size,4,none⟩=some (.string rr.path):=cell_of hnr rfl
      have r5:Wa.cell? ⟨w9.heap.size,5,none⟩=some (.int .i64 rr.rule):=cell_of hnr rfl
      by_cases h0:rr.rule=0
      ·obtain ⟨hps,hds⟩:rr.path.size≤tx.size∧rr.data.size≤tx.size:=by rw [← HRR.out];exact row_size tx
       obtain ⟨s1,s2,s3⟩:=split_size rr.path
       have HPS:=Lib.hid (psplit_calls rr.path Wa (by omega) (Maxed_below HM.out hbaw))
       have HS1:=Lib.hid s1
       have HS2:=Lib.hid s2
       have HDS:=Lib.hid hds
       obtain ⟨sp,hsp⟩:∃ sp,splitR rr.path=sp:=⟨_,rfl⟩
       have HSP:=Lib.hid hsp
       rw [hsp] at HPS HS1 HS2 s3 s1 s2
       clear hsp
       obtain ⟨p,okB⟩:=sp
       simp only at HPS HS1 HS2 s3
       clear s1 s2 hds
       have g0:(rr.rule == 0)=true:=by rw [h0];rfl
       rw [g0]
       clear g0
       go_wp2_with fail
       refine HPS.out.mono ?_
       rintro e w10 ⟨vp,rfl,hop,hb10⟩
       have HHD10:=Lib.hid (HHDa.out.below hb10)
       obtain ⟨AT,cT,hv,hat⟩:=HHD10.out.at
       obtain ⟨Ap,cp,rfl,hcp,hC⟩:=Kd.R_reads hop
       have hbk:t.bulk≤1099511627776:=by
        have h1:=HBK.out
        have h2:=HCL.out.1
        omega
       have HDI:=Lib.hid (dir_calls t ⟨w.heap.size+2,0,none⟩ AT cT Ap cp p w10 hat hbk HGD.out.sort hC hcp (by omega))
       have HOP:=Lib.hid hop
       have HC:=Lib.hid hC
       have HAB:Hid (∀ W,Below w10.heap.size w10 W→Below Wa.heap.size Wa W):=Lib.hid fun W h=>bstep hb10 hb10.size h
       have HP1:Hid (∀ W (k0:Int),Below Wa.heap.size Wa W→(W.setCell ⟨w9.heap.size,5,none⟩ (.int .i64 k0)).heap[w9.heap.size]? = some (.cells #[.string ⟨#[]⟩,.int .u8 rr.kind,.string rr.data,.slice none 0 0,.string rr.path,.int .i64 k0] 86 (0,0))):=Lib.hid fun W k0 h =>
        blk_put (cs:=#[.string ⟨#[]⟩,.int .u8 rr.kind,.string rr.data,.slice none 0 0,.string rr.path,.int .i64 rr.rule]) ((h.block w9.heap.size hzr).trans hnr) 5 _ rfl
       have HP2:Hid (∀ W (k0:Int),Below Wa.heap.size Wa W→(W.setCell ⟨w9.heap.size,5,none⟩ (.int .i64 k0)).heap[w.heap.size]? = some (.cells zC 25 (0,0))):=Lib.hid fun W k0 h =>
        (Below.heap_setCell _ _ _ _ (by simp only;omega)).trans ((h.block w.heap.size (by omega)).trans HZ2a.out)
       have HP3:Hid (∀ W (k0:Int),Below Wa.heap.size Wa W→(W.setCell ⟨w9.heap.size,5,none⟩ (.int .i64 k0)).heap[w.heap.size+1]? = some (.cells #[.int .i64 0,.int .i64 0] 30 (0,0))):=Lib.hid fun W k0 h =>
        (Below.heap_setCell _ _ _ _ (by simp only;omega)).trans ((h.block (w.heap.size+1) (by omega)).trans HZ4a.out)
       have HP4:Hid (∀ W (k0:Int),Below Wa.heap.size Wa W→Below w.heap.size w (W.setCell ⟨w9.heap.size,5,none⟩ (.int .i64 k0))):=Lib.hid fun W k0 h =>
        (hbaw.trans (h.mono (by omega))).setCell (p:=⟨w9.heap.size,5,none⟩) (by simp only;omega) _
       have HRB:Hid (∀ W,Below Wa.heap.size Wa W→W.heap[w9.heap.size]? = some (.cells #[.string ⟨#[]⟩,.int .u8 rr.kind,.string rr.data,.slice none 0 0,.string rr.path,.int .i64 rr.rule] 86 (0,0))):=Lib.hid fun W h=>(h.block w9.heap.size hzr).trans hnr
       clear hop hC hat hv r4 r5
       go_wp2_with fail
       refine HDI.out.mono ?_
       rintro e w11 ⟨hb11,hdd⟩
       have hba11:=HAB.out w11 hb11
       have HC11:=Lib.hid (Kd.C_below HC.out hb11)
       have HU11:=Lib.hid (Kd.R_below HUa.out hba11)
       have x5:=cell_of (j:=5) (HRB.out w11 hba11) rfl
       have x1:=cell_of (j:=1) (HRB.out w11 hba11) rfl
       have x2:=cell_of (j:=2) (HRB.out w11 hba11) rfl
       have fz:w11.frozen? ⟨w9.heap.size,5,none⟩=false:=by simp [World.frozen?,HRB.out w11 hba11]
       cases okB
       ·obtain ⟨vd,rfl⟩:∃ vd,e=.returned vd:=by
         rcases hdd with ⟨_,_,_,_,_,_,_,_,h,_⟩ | ⟨_,h⟩
         ·exact ⟨_,h⟩
         ·exact ⟨_,h⟩
        clear hdd
        go_wp2_with fail
        go_meet
        case rel=>exact ⟨⟨#[]⟩,3,_,rfl,Lib.hid (HP1.out w11 3 hba11),Lib.hid (HP2.out w11 3 hba11),Lib.hid (HP3.out w11 3 hba11),HP4.out w11 3 hba11,.inl ⟨by decide,Lib.hid (by rw [line_3 HRR.out h0 HSP.out])⟩⟩
       ·obtain ⟨hpne,hp64⟩:=HS2.out rfl
        obtain ⟨n,hn⟩:∃ n,p.length=n+1:=⟨p.length - 1,by have:=List.length_pos_iff.2 hpne;omega⟩
        have HN:=Lib.hid hn
        obtain ⟨vd,hvd⟩:∃ vd,e=.returned vd:=by
         rcases hdd with ⟨_,_,_,_,_,_,_,_,h,_⟩ | ⟨_,h⟩
         ·exact ⟨_,h⟩
         ·exact ⟨_,h⟩
        have HDD:=Lib.hid hdd
        subst hvd
        clear hdd hn
        go_upto_region 17 with fail
        go_cut [68] from 69 to 76 (fun vb wc=>∃ b:Bool,vb=.bool b∧Hid (Below w11.heap.size w11 wc)∧Hid (b=true↔(last≠[]∧0≤cmpP last p)))
        case first =>
         by_cases hl:last=[]
         ·obtain rfl:=HUN.out hl
          go_wp2_with fail
          go_meet
          case rel=>exact ⟨false,rfl,Lib.hid (Below.refl _ _),Lib.hid (by simp [hl])⟩
         ·obtain ⟨Au0,cu,rfl,hcu,hCu⟩:=Kd.R_reads HU11.out
          obtain ⟨Au,rfl,_⟩:=Kd.at_string hCu 0 (by omega) (by have:=List.length_pos_iff.2 hl;omega)
          have HCM:=Lib.hid (compare_calls (some Au) cu last Ap cp p w11 hCu hcu HC11.out hcp (by omega))
          clear hCu
          obtain ⟨cm,hcm⟩:∃ cm,cmpP last p=cm:=⟨_,rfl⟩
          rw [hcm] at HCM
          have HL:=Lib.hid hl
          have HCE:=Lib.hid hcm
          clear hl hcm
          go_wp2_with fail
          refine HCM.out.mono ?_
          rintro e w12 ⟨rfl,nd,rfl⟩
          go_wp2_with fail
          go_meet
          case rel=>exact ⟨decide (0≤cm),rfl,Lib.hid (bdrewN (Below.refl _ _) nd),Lib.hid (by rw [HCE.out];simp [HL.out])⟩
        case rest =>
         obtain ⟨b,rfl,hbc,HB⟩:=hcut
         have hba12:=bstep hba11 hba11.size hbc.out
         have hb12:=bstep hb11 hb11.size hbc.out
         clear x5 x1 x2 fz
         have x5:=cell_of (j:=5) (HRB.out wc hba12) rfl
         have x1:=cell_of (j:=1) (HRB.out wc hba12) rfl
         have x2:=cell_of (j:=2) (HRB.out wc hba12) rfl
         have fz:wc.frozen? ⟨w9.heap.size,5,none⟩=false:=by simp [World.frozen?,HRB.out wc hba12]
         cases b
         ·have HNC:Hid (¬ (last≠[]∧0≤cmpP last p)):=Lib.hid fun h=>by have:=HB.out.2 h;cases this
          rcases HDD.out with ⟨ad',y,A',c',_,hd,hgo,hyk,hve,hat',hre⟩ | ⟨hd,hve⟩
          ·injection hve with hve
           subst hve
           have HDO:=Lib.hid hd
           have HGO:=Lib.hid hgo
           have HRE:=Lib.hid hre
           clear hd hgo hyk hat' hre
           go_upto_region 21 with fail
           go_cut [82] from 32 to 93 (fun vb wc2=>∃ b:Bool,vb=.bool b∧wc2=wc∧Hid (b=true↔(rr.kind=3∧targetB rr.data=false)))
           case first =>
            by_cases hk:rr.kind=3
            ·go_wp2_with fail
             refine (target_calls rr.data wc).mono ?_
             rintro e w13 ⟨rfl,hw13⟩
             rw [hw13]
             clear hw13
             go_wp2_with fail
             go_meet
             case rel=>exact ⟨!(targetB rr.data),rfl,rfl,Lib.hid (by simp [hk])⟩
            ·have g2:(rr.kind == 3)=false:=by simpa using hk
             have HK:=Lib.hid hk
             clear hk
             go_wp2_with fail
             go_meet
             case rel=>exact ⟨false,rfl,rfl,Lib.hid (by simp [HK.out])⟩
           case rest =>
           obtain ⟨b,rfl,hw12,HB2⟩:=hcut
           subst hw12
           cases b
           ·have HNK:Hid (¬ (rr.kind=3∧targetB rr.data=false)):=Lib.hid fun h=>by have:=HB2.out.2 h;cases this
            obtain ⟨g,o,v',inner,rfl,hgc,⟨gcs,hgcs⟩,hgm,how,hvb,hSP⟩:=sprout HHD10.out HRE.out
            obtain ⟨A1,c1,rfl⟩:=own_slice how
            have HSPR:=Lib.hid hSP
            have HOW:=Lib.hid how
            have HVB:=Lib.hid hvb
            have hgl:g<w9.heap.size:=by
             rcases hgm with h | h
             ·omega
             ·exact (HBL.out g h).1
            have hgB:w.heap.size+2≤g:=by
             rcases hgm with h | h
             ·omega
             ·have:=(HBL.out g h).2
              omega
            have h10:=hb10.size
            have HG12:Hid (wc.heap[g]? = w10.heap[g]?):=Lib.hid (hb12.block g (by omega))
            obtain ⟨pad,hpad,hx⟩:=Kd.at_string (Kd.C_below HC11.out hbc.out) (n:Int) (by omega) (by have:=HN.out;omega)
            subst hpad
            rw [Int.toNat_natCast,last_at HN.out] at hx
            obtain ⟨nm,hnm⟩:∃ nm,p.getLastD ⟨#[]⟩=nm:=⟨_,rfl⟩
            rw [hnm] at hx
            have HNM:=Lib.hid hnm
            rw [HN.out]
            have hn64:n≤64:=by have:=HN.out;omega
            have x0:=cell_of (j:=0) (HRB.out wc hba12) rfl
            have fz0:wc.frozen? ⟨w9.heap.size,0,none⟩=false:=by simp [World.frozen?,HRB.out wc hba12]
            clear hnm hSP how hvb
            have HPUT:Hid ((wc.setCell ⟨w9.heap.size,0,none⟩ (.string nm)).heap[w9.heap.size]? = some (.cells #[.string nm,.int .u8 rr.kind,.string rr.data,.slice none 0 0,.string rr.path,.int .i64 rr.rule] 86 (0,0))):=Lib.hid (blk_put (cs:=#[.string ⟨#[]⟩,.int .u8 rr.kind,.string rr.data,.slice none 0 0,.string rr.path,.int .i64 rr.rule]) (HRB.out wc hba12) 0 _ rfl)
            have HG13:Hid ((wc.setCell ⟨w9.heap.size,0,none⟩ (.string nm)).heap[g]? = w10.heap[g]?):=Lib.hid ((Below.heap_setCell _ _ _ _ (by simp only;omega)).trans HG12.out)
            have hO13:Only (fun k=>k=w9.heap.size) wc (wc.setCell ⟨w9.heap.size,0,none⟩ (.string nm)):=Only.setCell wc ⟨w9.heap.size,0,none⟩ _
            go_wp2_with fail
            generalize wc.setCell ⟨w9.heap.size,0,none⟩ (.string nm)=Wn at *
            have hml:y.files.length≤300000000000:=by
             have h1:=bulk_go _ _ _ _ HGO.out
             have h2:=bulk_eq y
             have h3:=bulkL_len y.files
             have h4:=HBK.out
             have h5:=HCL.out.1
             omega
            have h9n:w9.heap.size<Wn.heap.size:=blk_lt HPUT.out
            have h10n:w10.heap.size≤Wn.heap.size:=Nat.le_trans hb12.size hO13.size
            have hgn:g<Wn.heap.size:=by omega
            generalize hm:y.files.length=m at *
            have HM2:=Lib.hid hm
            clear hm
            refine start_ (n:=14) (S:=fun w'=>w'.cell? ⟨g,o+3,none⟩=some (.slice A1 m c1)∧w'.cell? ⟨w9.heap.size,0,none⟩=some (.string nm)∧w'.cell? ⟨w9.heap.size,1,none⟩=some (.int .u8 rr.kind)∧w'.cell? ⟨w9.heap.size,2,none⟩=some (.string rr.data)∧w'.cell? ⟨w9.heap.size,3,none⟩=some (.slice none 0 0)) (ds:=[10,13]) #[false,false,false,false,false,false,false,false,false,false,false,false,false,false] (by kernel_rfl) rfl rfl ⟨(cell_heap HG13.out (o+3)).trans hgc,cell_of HPUT.out rfl,cell_of HPUT.out rfl,cell_of HPUT.out rfl,cell_of HPUT.out rfl⟩ (fun hHeld => ?_)
            refine pA 0 52 #[true,false,false,false,false,false,false,false,false,false,false,false,false,false] ?_
            refine pA 1 53 #[true,true,false,false,false,false,false,false,false,false,false,false,false,false] ?_
            refine pA 2 54 #[true,true,true,false,false,false,false,false,false,false,false,false,false,false] ?_
            refine tA 3 55 #[true,true,true,true,false,false,false,false,false,false,false,false,false,false] hHeld ?_ (hy:=by
             rintro w' ⟨s0,s1,s2,s3,s4⟩
             go_simp
             with_reducible rfl)
            refine pA 4 56 #[true,true,true,true,true,false,false,false,false,false,false,false,false,false] ?_
            refine tA 5 57 #[true,true,true,true,true,true,false,false,false,false,false,false,false,false] hHeld ?_ (hy:=by
             rintro w' ⟨s0,s1,s2,s3,s4⟩
             go_simp
             with_reducible rfl)
            refine pA 6 58 #[true,true,true,true,true,true,true,false,false,false,false,false,false,false] ?_
            refine eA 7 59 #[true,true,true,true,true,true,true,true,false,false,false,false,false,false] (fun K hK => ?_)
            have hb1:=bdrew (below_alloc (Below.refl Wn.heap.size Wn) (.cells zC 25))
            have hn1:(Wn.alloc (.cells zC 25)).drew.heap[Wn.heap.size]? = _:=blk_new Wn (.cells zC 25)
            refine vA ?_
            generalize (Wn.alloc (.cells zC 25)).drew=W1 at *
            have HP1':=Lib.hid ((hb1.block w9.heap.size h9n).trans HPUT.out)
            have HG1:=Lib.hid ((hb1.block g hgn).trans HG13.out)
            have hs1:=hb1.size
            refine hK.out _ _ ⟨(cell_heap HG1.out (o+3)).trans hgc,cell_of HP1'.out rfl,cell_of HP1'.out rfl,cell_of HP1'.out rfl,cell_of HP1'.out rfl⟩ (fun hHeld => ?_)
            refine nA 59 ?_
            refine eA 8 60 #[true,true,true,true,true,true,true,true,true,false,false,false,false,false] (fun K hK => ?_)
            have hSame:∀ k,k=w.heap.size+2∨k∈bl→W1.heap[k]? = w10.heap[k]? := fun k hk=>by
             have hk9:k<w9.heap.size:=by
              rcases hk with h | h
              ·omega
              ·exact (HBL.out k h).1
             exact (hb1.block k (by omega)).trans ((hO13.block k (by have:=hb12.size;omega) (by omega)).trans (hb12.block k (by omega)))
            have HOW1:Hid (W1.ownsRow (w.heap.size+3) 25 4 (.slice A1 m c1) m inner):=Lib.hid (own_move HOW.out fun k hk=>hSame k (.inr (HVB.out k hk).1))
            have HSA:=Lib.hid hSame
            obtain ⟨ti,hi,hz0,hz1,hz2⟩:=info_parts info_file
            obtain ⟨v2,W2,hrun,ho2,hg2,_,hb2⟩:=run_append_own_at (P:=Tryz.prog) W1 (w.heap.size+3) 23 23 25 ti _ 4 64 Tryz.underlying23 hi hz0 hz1 hz2 rfl (by decide) (.slice A1 m c1) m inner HOW1.out ⟨Wn.heap.size,0,none⟩ 1 1 [.string ⟨#[]⟩,.int .u8 0,.string ⟨#[]⟩,.slice none 0 0] rfl
             (fun j u hj=>by rw [add_at4];exact cell_of hn1 (by simpa using hj)) (fun u hu=>by simp at hu;rcases hu with rfl | rfl | rfl | rfl <;> rfl) (by simp only [maxLen];omega) (by omega) (by omega)
            obtain ⟨g2,cap2,rfl⟩:=ownsRow_succ ho2
            refine value_ (w1:=W2) (v:=.slice (some ⟨g2,0,none⟩) (m+1) cap2) (by rfl) rfl (exec_append (.tmp 55) (.tmp 59) 23 rfl rfl rfl hrun) ?_
            have HO2:=Lib.hid ho2
            obtain ⟨cs2,hcs2⟩:=own_cells ho2
            have hrow:∀ j,(Value.slice A1 m c1).ownBlock=some j→j∈bl∧j≠g:=HVB.out
            have hg2g:g2≠g:=by
             rcases hb2 with h | h
             ·exact (hrow g2 (h.symm.trans rfl)).2
             ·have h':g2=W1.heap.size:=Option.some.inj h
              omega
            have hg29:g2≠w9.heap.size:=by
             rcases hb2 with h | h
             ·have:=HBL.out _ (hrow g2 (h.symm.trans rfl)).1
              omega
             ·have h':g2=W1.heap.size:=Option.some.inj h
              omega
            have HP2':=Lib.hid ((hg2.block w9.heap.size (by omega) (fun e=>by have:=HBL.out _ (hrow _ e.symm).1;omega)).trans HP1'.out)
            have HG2:=Lib.hid ((hg2.block g (by omega) (fun e=>(hrow _ e.symm).2 rfl)).trans HG1.out)
            have hs2:=hg2.size
            refine hK.out _ _ ⟨(cell_heap HG2.out (o+3)).trans hgc,cell_of HP2'.out rfl,cell_of HP2'.out rfl,cell_of HP2'.out rfl,cell_of HP2'.out rfl⟩ (fun hHeld => ?_)
            refine nA 60 ?_
            clear hrun hcs2
            refine pB 9 61 #[true,true,true,true,true,true,true,true,true,true,false,false,false,false] ?_ (hy:=by
             intro w'
             go_simp
             rw [if_pos (by omega)])
            refine pA 11 62 #[true,true,true,true,true,true,true,true,true,true,false,true,false,false] ?_
            refine pA 12 63 #[true,true,true,true,true,true,true,true,true,true,false,true,true,false] ?_
            have hil:inner.length=m * 4:=HOW.out.1
            have hcl:∀ j u,[Value.string ⟨#[]⟩,.int .u8 0,.string ⟨#[]⟩,.slice none 0 0][j]? = some u→W2.cell? ⟨g2,m * 4+j,none⟩=some u:=fun j u hj=>by
             have h:=HO2.out.cells (g:=g2) rfl (m * 4+j) u (by rw [← hil,List.getElem?_append_right (by omega),Nat.add_sub_cancel_left];exact hj)
             rwa [add_at4] at h
            obtain ⟨cs2,hcs2⟩:=own_cells HO2.out
            have e0:=hcl 0 _ rfl
            have e1:=hcl 1 _ rfl
            have e2:=hcl 2 _ rfl
            have e3:=hcl 3 _ rfl
            rw [Nat.add_zero] at e0
            have f0:=frozen_heap (W':=W2) rfl hcs2 (m * 4)
            have f1:=frozen_heap (W':=W2) rfl hcs2 (m * 4+1)
            have f2:=frozen_heap (W':=W2) rfl hcs2 (m * 4+2)
            have f3:=frozen_heap (W':=W2) rfl hcs2 (m * 4+3)
            have hq2:(W2.setCell ⟨g,o+3,none⟩ (.slice (some ⟨g2,0,none⟩) (m+1) cap2)).heap[g2]? = W2.heap[g2]? := Below.heap_setCell _ _ _ _ (by simp only;omega)
            have e0':=(cell_heap hq2 (m * 4)).trans e0
            have e1':=(cell_heap hq2 (m * 4+1)).trans e1
            have e2':=(cell_heap hq2 (m * 4+2)).trans e2
            have e3':=(cell_heap hq2 (m * 4+3)).trans e3
            have f0':=frozen_heap hq2 hcs2 (m * 4)
            have f1':=frozen_heap hq2 hcs2 (m * 4+1)
            have f2':=frozen_heap hq2 hcs2 (m * 4+2)
            have f3':=frozen_heap hq2 hcs2 (m * 4+3)
            have hq3:((((W2.setCell ⟨g2,m * 4,none⟩ (.string nm)).setCell ⟨g2,m * 4+1,none⟩ (.int .u8 rr.kind)).setCell ⟨g2,m * 4+2,none⟩ (.string rr.data)).setCell ⟨g2,m * 4+3,none⟩ (.slice none 0 0)).heap[g]? = w10.heap[g]? := by
             rw [Below.heap_setCell _ _ _ _ (by simp only;omega),Below.heap_setCell _ _ _ _ (by simp only;omega),Below.heap_setCell _ _ _ _ (by simp only;omega),Below.heap_setCell _ _ _ _ (by simp only;omega)];exact HG2.out
            have HQ3:=Lib.hid hq3
            have c3:=(cell_heap hq3 (o+3)).trans hgc
            have c4:=frozen_heap hq3 hgcs (o+3)
            have c5:=frozen_heap HG2.out hgcs (o+3)
            have c6:=(cell_heap HG2.out (o+3)).trans hgc
            clear hcl hcs2 hq2 hq3
            refine join_ (σ:=Unit) 0 #[true,true,true,true,true,true,true,true,true,true,true,true,true,true] (fun _=>[]) (fun _ W=>W=(((((W2.setCell ⟨g2,m * 4,none⟩ (.string nm)).setCell ⟨g2,m * 4+1,none⟩ (.int .u8 rr.kind)).setCell ⟨g2,m * 4+2,none⟩ (.string rr.data)).setCell ⟨g2,m * 4+3,none⟩ (.slice none 0 0)).setCell ⟨g,o+3,none⟩ (.slice (some ⟨g2,0,none⟩) (m+1) cap2))) (fun _ W hW => ?cont) (fun hJ => ?_)
            case cont =>
             have hOA:Only (fun k=>k=w9.heap.size) w10 Wn:=(Only.of_below hb12 (fun _=>False)).trans hO13 (fun k _ h=>h.elim) (fun k _ h=>h)
             have hOB:Only (fun k=>k=w9.heap.size∨(Value.slice A1 m c1).ownBlock=some k) w10 W2:=(hOA.trans (K:=fun k=>k=w9.heap.size) (Only.of_below hb1 (fun _=>False)) (fun _ _ h=>h) (fun _ _ h=>h.elim)).trans (Only.grown_of hg2) (fun k _ h=>.inl h) (fun k _ h=>.inr h)
             have hOC:Only (fun k=>k=g2) W2 ((((W2.setCell ⟨g2,m * 4,none⟩ (.string nm)).setCell ⟨g2,m * 4+1,none⟩ (.int .u8 rr.kind)).setCell ⟨g2,m * 4+2,none⟩ (.string rr.data)).setCell ⟨g2,m * 4+3,none⟩ (.slice none 0 0)):=(((Only.setCell _ ⟨g2,m * 4,none⟩ _).trans (Only.setCell _ ⟨g2,m * 4+1,none⟩ _) (fun _ _ h=>h) (fun _ _ h=>h)).trans (Only.setCell _ ⟨g2,m * 4+2,none⟩ _) (fun _ _ h=>h) (fun _ _ h=>h)).trans (Only.setCell _ ⟨g2,m * 4+3,none⟩ _) (fun _ _ h=>h) (fun _ _ h=>h)
             have hrow3:W2.ownsRow (w.heap.size+3) 25 4 (.slice (some ⟨g2,0,none⟩) (m+1) cap2) (m+1) (inner++[.string ⟨#[]⟩,.int .u8 0,.string ⟨#[]⟩,.slice none 0 0]):=HO2.out
             have hr3:=own_set (own_set (own_set (own_set (w':=W2.setCell ⟨g2,m * 4,none⟩ (.string nm)) hrow3 rfl (j:=m * 4) (by simp;omega) rfl) (w':=(W2.setCell ⟨g2,m * 4,none⟩ (.string nm)).setCell ⟨g2,m * 4+1,none⟩ (.int .u8 rr.kind)) rfl (j:=m * 4+1) (by simp;omega) rfl) (w':=((W2.setCell ⟨g2,m * 4,none⟩ (.string nm)).setCell ⟨g2,m * 4+1,none⟩ (.int .u8 rr.kind)).setCell ⟨g2,m * 4+2,none⟩ (.string rr.data)) rfl (j:=m * 4+2) (by simp;omega) rfl) (w':=((((W2.setCell ⟨g2,m * 4,none⟩ (.string nm)).setCell ⟨g2,m * 4+1,none⟩ (.int .u8 rr.kind)).setCell ⟨g2,m * 4+2,none⟩ (.string rr.data)).setCell ⟨g2,m * 4+3,none⟩ (.slice none 0 0))) rfl (j:=m * 4+3) (by simp;omega) rfl
             rw [set4 hil] at hr3
             have hP3:=hOC.block w9.heap.size (by omega) (Ne.symm hg29)
             have HQ3':=HQ3.out
             have hs3:=hOC.size
             clear HQ3 c3 c4 c5 c6 e0 e1 e2 e3 e0' e1' e2' e3' f0 f1 f2 f3 f0' f1' f2' f3' hHeld hK
             generalize ((((W2.setCell ⟨g2,m * 4,none⟩ (.string nm)).setCell ⟨g2,m * 4+1,none⟩ (.int .u8 rr.kind)).setCell ⟨g2,m * 4+2,none⟩ (.string rr.data)).setCell ⟨g2,m * 4+3,none⟩ (.slice none 0 0))=W3 at *
             have hOD:Only (fun k=>k=g) W3 (W3.setCell ⟨g,o+3,none⟩ (.slice (some ⟨g2,0,none⟩) (m+1) cap2)):=Only.setCell W3 ⟨g,o+3,none⟩ _
             have hOF:Only (fun k=>k=w9.heap.size∨k=g∨(Value.slice A1 m c1).ownBlock=some k) w10 (W3.setCell ⟨g,o+3,none⟩ (.slice (some ⟨g2,0,none⟩) (m+1) cap2)):=(hOB.trans hOC (K:=fun k=>k=w9.heap.size∨(Value.slice A1 m c1).ownBlock=some k) (fun _ _ h=>h) (fun k hk e=>by
              subst e
              rcases hb2 with h | h
              ·exact .inr (h.symm.trans rfl)
              ·have h':k=W1.heap.size:=Option.some.inj h
               omega)).trans hOD (fun k _ h=>h.elim .inl (fun h=>.inr (.inr h))) (fun k _ h=>.inr (.inl h))
             have hFg:=setCell_same (W:=W3) (W':=w10) ⟨g,o+3,none⟩ (.slice (some ⟨g2,0,none⟩) (m+1) cap2) HQ3'
             have hP4:=hOD.block w9.heap.size (by omega) (fun e=>by omega)
             have hrF:=own_move hr3 (w1:=W3.setCell ⟨g,o+3,none⟩ (.slice (some ⟨g2,0,none⟩) (m+1) cap2)) (fun k hk=>Below.heap_setCell _ _ _ _ (fun e=>by
              have hk':g2=k:=Option.some.inj hk
              simp only at e
              omega))
             generalize W3.setCell ⟨g,o+3,none⟩ (.slice (some ⟨g2,0,none⟩) (m+1) cap2)=WF at *
             subst hW
             have hnot:∀ k,(k=w.heap.size+2∨k∈bl)→k≠g→(Value.slice A1 m c1).ownBlock≠some k→¬ (k=w9.heap.size∨k=g∨(Value.slice A1 m c1).ownBlock=some k):=fun k hk h1 h2 h=>by
              rcases h with h | h | h
              ·rcases hk with hk | hk
               ·omega
               ·have:=(HBL.out k hk).1
                omega
              ·exact h1 h
              ·exact h2 h
             have hnm:=HNM.out
             subst hnm
             obtain ⟨v3,bl2,hheld,hsub⟩:=HSPR.out W (.slice (some ⟨g2,0,none⟩) (m+1) cap2) (newF p rr) rfl (fun k hk h1 h2=>hOF.block k (by
              rcases hk with h | h
              ·omega
              ·have:=(HBL.out k h).1
               omega) (hnot k hk h1 h2)) hFg hrF (hb2.imp id fun h=>⟨_,h,by omega⟩)
             have hsep:∀ k,k<w10.heap.size→k ∉ bl→k ∉ bl2:=fun k hk h1 h2=>by
              rcases hsub k h2 with h | h
              ·exact h1 h
              ·omega
             have hrowbl:∀ k,(Value.slice A1 m c1).ownBlock=some k→k∈bl:=fun k hk=>(HVB.out k hk).1
             have HHDF:=Lib.hid hheld
             have HLRF:Hid (LineK.R 83 W (w.heap.size+3) (Off (w.heap.size+2) bl2) (.slice (some ad) L.length cL) L):=Lib.hid (Kd.R_mono (Kd.R_bound (R_onlyG (Kd.R_mono (Kd.R_bound (Kd.R_below HLRa.out hb10)) (ok':=fun j=>(Off (w.heap.size+2) bl j∧j<w9.heap.size)∧w.heap.size+3≤j) fun j hj=>⟨hj.1,hj.2.1⟩) hOF fun k hk h=>by
              rcases h with h | h | h
              ·have:=hk.1.2
               omega
              ·rcases hgm with e | e
               ·exact hk.1.1.2 (h.trans e)
               ·exact hk.1.1.1 (h ▸ e)
              ·exact hk.1.1.1 (hrowbl k h))) fun j hj=>⟨hsep j (by have:=hj.1.1.2;omega) hj.1.1.1.1,hj.1.1.1.2⟩)
             have HUF:Hid (Kd.R Kd.string 9 W (w.heap.size+3) (Off (w.heap.size+2) bl2) (.slice (some pad) (n+1) cp) p):=Lib.hid (by
              rw [← HN.out]
              refine Kd.R_lower (Kd.R_mono (R_only (Kd.R_mono (Kd.R_bound HOP.out) (ok':=fun j=>Wa.heap.size≤j∧j<w10.heap.size) fun j hj=>⟨hj.2.1,hj.2.2.1⟩) hOF fun k hk h => ?_) fun j hj=>⟨hsep j hj.2 fun h => ?_,?_⟩) (by omega)
              ·rcases h with h | h | h
               ·omega
               ·omega
               ·have:=(HBL.out k (hrowbl k h)).1
                omega
              ·have:=(HBL.out j h).1
               omega
              ·have:=hj.1
               omega)
             have hBF:Below w.heap.size w W:=(hbaw.trans (hb10.mono (by omega))).trans (hOF.below (B:=w.heap.size) (by omega) fun k hk h=>by
              rcases h with h | h | h
              ·omega
              ·omega
              ·have:=(HBL.out k (hrowbl k h)).2
               omega)
             have HROWF:=Lib.hid (hP4.trans (hP3.trans HP2'.out))
             have HZ2F:=Lib.hid ((hOF.block w.heap.size (by omega) (fun h=>by
              rcases h with h | h | h
              ·omega
              ·omega
              ·have:=(HBL.out _ (hrowbl _ h)).2
               omega)).trans ((hb10.block w.heap.size (by omega)).trans HZ2a.out))
             have HZ4F:=Lib.hid ((hOF.block (w.heap.size+1) (by omega) (fun h=>by
              rcases h with h | h | h
              ·omega
              ·omega
              ·have:=(HBL.out _ (hrowbl _ h)).2
               omega)).trans ((hb10.block (w.heap.size+1) (by omega)).trans HZ4a.out))
             have HGF:=Lib.hid (good_add (z:=newF p rr) HGD.out hpne HGO.out rfl rfl HNC.out)
             have HBF:=Lib.hid (add_bulk HGO.out (newF_bulk (tx:=tx) (fun y hy=>Nat.le_trans (HS1.out y hy) hps) rr HDS.out))
             refine done_ (by kernel_rfl) ?_
             go_wp2_with fail
             go_meet
             case rel=>exact ⟨_,rr.rule,_,rfl,HROWF,HZ2F,HZ4F,hBF,.inr ⟨h0,addP t p y (newF p rr),p,v3,bl2,Lib.hid (line_0 HRR.out h0 HSP.out HNC.out HDO.out HNK.out),hpne,hp64,HHDF,HLRF,HUF,HGF,HBF⟩⟩
            refine twoL_ (i:=10) (j:=13) (Ni:=none) (Nj:=none) #[true,true,true,true,true,true,true,true,true,true,true,true,true,false] #[true,true,true,true,true,true,true,true,true,true,false,true,true,true] rfl rfl rfl rfl (by kernel_rfl) (by decide) (by decide) (fun K hK => ?_) (fun K hK => ?_)
            ·refine sA ?_
             refine hK.out _ _ ?_
             refine last_ (i:=13) (N:=none) #[true,true,true,true,true,true,true,true,true,true,true,true,true,true] rfl rfl (by kernel_rfl) (by decide) (fun K2 hK2 => ?_)
             refine sA ?_
             exact hK2.out _ _ (hJ () _ rfl)
            ·refine sA ?_
             refine hK.out _ _ ?_
             refine last_ (i:=10) (N:=none) #[true,true,true,true,true,true,true,true,true,true,true,true,true,true] rfl rfl (by kernel_rfl) (by decide) (fun K2 hK2 => ?_)
             refine sA ?_
             refine hK2.out _ _ (hJ () _ ?_)
             rw [setCell_comm W2 ⟨g,o+3,none⟩ ⟨g2,m * 4,none⟩ _ _ (Ne.symm hg2g),setCell_comm _ ⟨g,o+3,none⟩ ⟨g2,m * 4+1,none⟩ _ _ (Ne.symm hg2g),setCell_comm _ ⟨g,o+3,none⟩ ⟨g2,m * 4+2,none⟩ _ _ (Ne.symm hg2g),setCell_comm _ ⟨g,o+3,none⟩ ⟨g2,m * 4+3,none⟩ _ _ (Ne.symm hg2g)]
           ·go_wp2_with fail
            go_meet
            case rel=>exact ⟨⟨#[]⟩,6,_,rfl,Lib.hid (HP1.out wc 6 hba12),Lib.hid (HP2.out wc 6 hba12),Lib.hid (HP3.out wc 6 hba12),HP4.out wc 6 hba12,.inl ⟨by decide,Lib.hid (by rw [line_6 HRR.out h0 HSP.out HNC.out HDO.out (HB2.out.1 (by trivial))])⟩⟩
          ·injection hve with hve
           subst hve
           have HDO:=Lib.hid hd
           clear hd
           go_wp2_with fail
           go_meet
           case rel=>exact ⟨⟨#[]⟩,5,_,rfl,Lib.hid (HP1.out wc 5 hba12),Lib.hid (HP2.out wc 5 hba12),Lib.hid (HP3.out wc 5 hba12),HP4.out wc 5 hba12,.inl ⟨by decide,Lib.hid (by rw [line_5 HRR.out h0 HSP.out HNC.out HDO.out])⟩⟩
         ·go_wp2_with fail
          go_meet
          case rel=>exact ⟨⟨#[]⟩,4,_,rfl,Lib.hid (HP1.out wc 4 hba12),Lib.hid (HP2.out wc 4 hba12),Lib.hid (HP3.out wc 4 hba12),HP4.out wc 4 hba12,.inl ⟨by decide,Lib.hid (by rw [line_4 HRR.out h0 HSP.out (HB.out.1 (by trivial))])⟩⟩
      ·have hpos:0<rr.rule:=by
        have h:=rule_nat tx
        rw [HRR.out] at h
        omega
       have g0:(rr.rule == 0)=false:=by simpa using h0
       have HR0:=Lib.hid h0
       clear h0
       go_wp2_with fail
       go_meet
       case rel=>exact ⟨⟨#[]⟩,rr.rule,_,rfl,Lib.hid hnr,HZ2a,HZ4a,hbaw,.inl ⟨hpos,Lib.hid (by rw [line_bad HRR.out HR0.out])⟩⟩
    ·have hsk:skipB tx=true:=by rw [skipB,show ([35]:List UInt8)=(⟨#[35]⟩:ByteArray).data.toList from rfl,hp,Bool.or_true]
     have hb':=bstep hb hsz hb8
     have HRN:Hid (readAll (L.drop (k+1)) (k+1) t last=R):=Lib.hid (by
      have h:=HRA.out
      rw [HDR.out,readAll,if_pos hsk] at h
      exact h)
     have HBN:Hid (t.bulk+cost (L.drop (k+1))≤4+cost L):=Lib.hid (by have h:=HBK.out;rw [HCD.out] at h;omega)
     clear HRA HBK HCD HDR
     go_wp2_with fail
     generalize wr.alloc (.cells #[.string tx,.bool tb] 83)=W8 at *
     refine (HPX.out tx W8).mono ?_
     rintro e w8 ⟨rfl,hw8⟩
     rw [hw8,hp]
     clear hw8
     go_wp2_with fail
     go_roundw
     case rel=>exact ⟨k+1,t,last,u,v,bl,by omega,by go_num,rfl,hb',HHD8,HZ28,HZ48,HLR8,HU8,HUN,HGD,hl64,HBN,HRN⟩
     case measure=>simp [RowKit.intOf];omega
   ·have hsk:skipB tx=true:=by rw [skipB,he,Bool.true_or]
    have hb':=bstep hb hsz hb8
    have HRN:Hid (readAll (L.drop (k+1)) (k+1) t last=R):=Lib.hid (by
     have h:=HRA.out
     rw [HDR.out,readAll,if_pos hsk] at h
     exact h)
    have HBN:Hid (t.bulk+cost (L.drop (k+1))≤4+cost L):=Lib.hid (by have h:=HBK.out;rw [HCD.out] at h;omega)
    clear HRA HBK HCD HDR
    go_wp2_with fail
    go_roundw
    case rel=>exact ⟨k+1,t,last,u,v,bl,by omega,by go_num,rfl,hb',HHD8,HZ28,HZ48,HLR8,HU8,HUN,HGD,hl64,HBN,HRN⟩
    case measure=>simp [RowKit.intOf];omega
  ·obtain rfl:k=L.length:=by omega
   have hra:=HRA.out
   rw [List.drop_length,readAll] at hra
   have HRF:=Lib.hid hra
   obtain ⟨AT,cT,rfl,hat⟩:=HHD.out.at
   have HCT:=Lib.hid hat.ch
   have HLE:=Lib.hid hat.le
   clear hra HRA HBK hat
   have q00:wr.frozen? ⟨w.heap.size,0,none⟩=false:=by simp [World.frozen?,HZ2.out]
   have q01:wr.frozen? ⟨w.heap.size,1,none⟩=false:=by simp [World.frozen?,HZ2.out]
   have q02:wr.frozen? ⟨w.heap.size,2,none⟩=false:=by simp [World.frozen?,HZ2.out]
   have q03:wr.frozen? ⟨w.heap.size,3,none⟩=false:=by simp [World.frozen?,HZ2.out]
   have f00:wr.frozen? ⟨w.heap.size+1,0,none⟩=false:=by simp [World.frozen?,HZ4.out]
   have f01:wr.frozen? ⟨w.heap.size+1,1,none⟩=false:=by simp [World.frozen?,HZ4.out]
   obtain ⟨d0,d1,d2,d3⟩:=c4A HZ2.out
   obtain ⟨e0,e1⟩:=c2A HZ4.out
   have t0:wr.cell? ⟨w.heap.size+1+1,0,none⟩=some (.string t.name):=cell_of HHD.out.box rfl
   have t1:wr.cell? ⟨w.heap.size+1+1,1,none⟩=some (.int .u8 t.kind):=cell_of HHD.out.box rfl
   have t2:wr.cell? ⟨w.heap.size+1+1,2,none⟩=some (.string t.data):=cell_of HHD.out.box rfl
   have t3:wr.cell? ⟨w.heap.size+1+1,3,none⟩=some (.slice AT t.files.length cT):=cell_of HHD.out.box rfl
   have HN2:Hid (((((((wr.setCell ⟨w.heap.size,0,none⟩ (.string t.name)).setCell ⟨w.heap.size,1,none⟩ (.int .u8 t.kind)).setCell ⟨w.heap.size,2,none⟩ (.string t.data)).setCell ⟨w.heap.size,3,none⟩ (.slice AT t.files.length cT)).setCell ⟨w.heap.size+1,0,none⟩ (.int .i64 0)).setCell ⟨w.heap.size+1,1,none⟩ (.int .i64 0)).heap[w.heap.size]? = some (.cells (fc t AT cT) 25 (0,0))):=Lib.hid (by
    rw [Below.heap_setCell _ _ _ _ (by simp only;omega),Below.heap_setCell _ _ _ _ (by simp only;omega)]
    exact blk_put (cs:=#[.string t.name,.int .u8 t.kind,.string t.data,.slice none 0 0]) (blk_put (cs:=#[.string t.name,.int .u8 t.kind,.string ⟨#[]⟩,.slice none 0 0]) (blk_put (cs:=#[.string t.name,.int .u8 0,.string ⟨#[]⟩,.slice none 0 0]) (blk_put (cs:=zC) HZ2.out 0 _ rfl) 1 _ rfl) 2 _ rfl) 3 _ rfl)
   have HN4:Hid (((((((wr.setCell ⟨w.heap.size,0,none⟩ (.string t.name)).setCell ⟨w.heap.size,1,none⟩ (.int .u8 t.kind)).setCell ⟨w.heap.size,2,none⟩ (.string t.data)).setCell ⟨w.heap.size,3,none⟩ (.slice AT t.files.length cT)).setCell ⟨w.heap.size+1,0,none⟩ (.int .i64 0)).setCell ⟨w.heap.size+1,1,none⟩ (.int .i64 0)).heap[w.heap.size+1]? = some (.cells #[.int .i64 0,.int .i64 0] 30 (0,0))):=Lib.hid (blk_put (cs:=#[.int .i64 0,.int .i64 0]) (blk_put (cs:=#[.int .i64 0,.int .i64 0]) (by
    rw [Below.heap_setCell _ _ _ _ (by simp only;omega),Below.heap_setCell _ _ _ _ (by simp only;omega),Below.heap_setCell _ _ _ _ (by simp only;omega),Below.heap_setCell _ _ _ _ (by simp only;omega)];exact HZ4.out) 0 _ rfl) 1 _ rfl)
   have HB4:Hid (Below w.heap.size w ((((((wr.setCell ⟨w.heap.size,0,none⟩ (.string t.name)).setCell ⟨w.heap.size,1,none⟩ (.int .u8 t.kind)).setCell ⟨w.heap.size,2,none⟩ (.string t.data)).setCell ⟨w.heap.size,3,none⟩ (.slice AT t.files.length cT)).setCell ⟨w.heap.size+1,0,none⟩ (.int .i64 0)).setCell ⟨w.heap.size+1,1,none⟩ (.int .i64 0))):=Lib.hid ((((((hb.setCell (p:=⟨w.heap.size,0,none⟩) (Nat.le_refl _) _).setCell (p:=⟨w.heap.size,1,none⟩) (Nat.le_refl _) _).setCell (p:=⟨w.heap.size,2,none⟩) (Nat.le_refl _) _).setCell (p:=⟨w.heap.size,3,none⟩) (Nat.le_refl _) _).setCell (p:=⟨w.heap.size+1,0,none⟩) (by simp only;omega) _).setCell (p:=⟨w.heap.size+1,1,none⟩) (by simp only;omega) _)
   have HFT:Hid (FT (w.heap.size+3) t ((((((wr.setCell ⟨w.heap.size,0,none⟩ (.string t.name)).setCell ⟨w.heap.size,1,none⟩ (.int .u8 t.kind)).setCell ⟨w.heap.size,2,none⟩ (.string t.data)).setCell ⟨w.heap.size,3,none⟩ (.slice AT t.files.length cT)).setCell ⟨w.heap.size+1,0,none⟩ (.int .i64 0)).setCell ⟨w.heap.size+1,1,none⟩ (.int .i64 0)) (.slice AT t.files.length cT) bl):=Lib.hid (FT_move _ t wr _ _ bl HHD.out.ft fun k hk=>by
    have h:=(FT_lt _ t wr _ bl HHD.out.ft k hk).2
    rw [Below.heap_setCell _ _ _ _ (by simp only;omega),Below.heap_setCell _ _ _ _ (by simp only;omega),Below.heap_setCell _ _ _ _ (by simp only;omega),Below.heap_setCell _ _ _ _ (by simp only;omega),Below.heap_setCell _ _ _ _ (by simp only;omega),Below.heap_setCell _ _ _ _ (by simp only;omega)])
   clear hlt
   go_wp2_with fail
   generalize ((((((wr.setCell ⟨w.heap.size,0,none⟩ (.string t.name)).setCell ⟨w.heap.size,1,none⟩ (.int .u8 t.kind)).setCell ⟨w.heap.size,2,none⟩ (.string t.data)).setCell ⟨w.heap.size,3,none⟩ (.slice AT t.files.length cT)).setCell ⟨w.heap.size+1,0,none⟩ (.int .i64 0)).setCell ⟨w.heap.size+1,1,none⟩ (.int .i64 0))=WF at *
   refine bodyPost_ret (results_cc rfl _ WF w.heap.size (w.heap.size+1) 25 30 (fc t AT cT) #[.int .i64 0,.int .i64 0] (0,0) (0,0) _ _ rfl rfl HN2.out HN4.out Tryz.underlying25 Tryz.underlying30 rfl rfl (by kernel_rfl) (by kernel_rfl)) rfl ?_
   obtain ⟨A',c',he,hcc,hCC⟩:=FT_reads _ _ _ _ _ HFT.out
   rw [← HRF.out]
   exact ⟨A',c',by rw [← he];rfl,hcc,hCC,HB4.out⟩
theorem cost_mem {l:List (ByteArray×Bool)} {x:ByteArray×Bool} (h:x∈l):x.1.size≤cost l:=by
 induction l with
 | nil=>cases h
 | cons y l ih =>
  rw [cost_cons]
  rcases List.mem_cons.1 h with rfl | h
  ·omega
  ·have:=ih h
   omega
theorem Read_calls (s:ByteArray) (w:World) (hs:s.size≤4194304) (hG:Tab w) (hM:Maxed w) :
  Calls Tryz.prog 11 #[.string s] w fun e w'=>∃ A c,e=.returned (.tuple #[.agg #[.string (treeR s).1.name,.int .u8 (treeR s).1.kind,.string (treeR s).1.data,.slice A (treeR s).1.files.length c],.int .i64 (treeR s).2.1,.agg #[.int .i64 (treeR s).2.2.1,.int .i64 (treeR s).2.2.2]])∧(treeR s).1.files.length≤c∧FileK.C w' A (treeR s).1.files.length (treeR s).1.files∧Below w.heap.size w w' :=
 ReadL_calls s w (by omega) (fun x hx=>by
  have h1:=cost_mem hx
  have h2:=(lines_cost _ s.data.toList (Nat.le_refl _)).1
  rw [← Lib.size_eq] at h2
  omega) hG hM
end Go.Proofs.YtdnhjnlhmfajnaaGreatDoor.G
