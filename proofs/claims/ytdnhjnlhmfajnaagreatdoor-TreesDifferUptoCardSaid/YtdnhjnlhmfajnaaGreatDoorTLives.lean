import Derived.Test.YtdnhjnlhmfajnaaGreatDoorKit
import Derived.Test.YtdnhjnlhmfajnaaGreatDoorTRead2
import Derived.Test.YtdnhjnlhmfajnaaGreatDoorTPrint
set_option linter.unusedVariables false
set_option linter.unusedSimpArgs false
namespace Go.Proofs.YtdnhjnlhmfajnaaGreatDoor.G
open Go.RowKit Go.Lib Go.Proofs.YtdnhjnlhmfajnaaGreatDoorW.PrintWords Go.Proofs.YtdnhjnlhmfajnaaGreatDoorW.PrintLast
set_option linter.unusedVariables false
def bF:File:=⟨⟨#[98]⟩,2,⟨#[120,10]⟩,[]⟩
def aF:File:=⟨⟨#[97]⟩,1,⟨#[]⟩,[bF]⟩
def cF:File:=⟨⟨#[99]⟩,3,⟨#[47,97,47,98]⟩,[]⟩
def sampleF:File:=⟨⟨#[]⟩,1,⟨#[]⟩,[aF,cF]⟩
def sampleT:ByteArray:=⟨#[100,105,114,32,34,47,97,34,10,116,101,120,116,32,34,47,97,47,98,34,32,34,120,92,110,34,10,108,105,110,107,32,34,47,99,34,32,34,47,97,47,98,34,10]⟩
theorem sample_bulk:sampleF.bulk=25:=by
 rw [sampleF,bulk_eq]
 simp only [aF,bF,cF,bulkL_cons,bulk_eq]
 rfl
theorem sample_check:checkR sampleF=(0,[]):=by
 have h:wrongN 25 sampleF []=none:=by kernel_rfl
 have h0:(⟨#[]⟩:ByteArray).toList.isEmpty=true:=by rw [Lib.toList_data];rfl
 rw [checkR,if_pos ⟨rfl,h0,h0⟩,sample_bulk,h]
 rfl
theorem sample_right:rightT sampleF=true:=by rw [rightT,sample_check];rfl
theorem sample_print:printL (preF [] sampleF)=sampleT.data.toList:=by kernel_rfl
theorem sample_read:treeR sampleT=(sampleF,0,0,0):=by kernel_rfl
theorem sample_get:getR sampleF [⟨#[97]⟩,⟨#[98]⟩]=(bF,0):=by
 have h:goP sampleF [⟨#[97]⟩,⟨#[98]⟩]=(0,some bF):=by kernel_rfl
 rw [getR,if_pos sample_right,h]
theorem own_block {w:World} {g n size:Nat} {cs:Array Value} {e:TypeId} (h:w.heap[g]? = some (.cells cs e (0,0))) (hn:n≤maxLen) (hs:cs.size=n * size):w.ownsRow 0 e size (.slice (some ⟨g,0,none⟩) n n) n cs.toList :=
 ⟨by simpa using hs,.inr ⟨g,n,cs,rfl,Nat.zero_le _,h,Nat.le_refl _,hn,hs,List.take_of_length_le (by rw [Array.length_toList,hs];exact Nat.le_refl _)⟩⟩
theorem sample_mem {N:World} {g h:Nat} (hb:N.heap[g]? = some (.cells #[.string ⟨#[98]⟩,.int .u8 2,.string ⟨#[120,10]⟩,.slice none 0 0] 25 (0,0)))
  (hc:N.heap[h]? = some (.cells #[.string ⟨#[97]⟩,.int .u8 1,.string ⟨#[]⟩,.slice (some ⟨g,0,none⟩) 1 1,.string ⟨#[99]⟩,.int .u8 3,.string ⟨#[47,97,47,98]⟩,.slice none 0 0] 25 (0,0))):FileK.C N (some ⟨h,0,none⟩) 2 [aF,cF]:=by
 have h3:=own_block (n:=1) (size:=4) hb (by decide) rfl
 have h2:=own_block (n:=2) (size:=4) hc (by decide) rfl
 have hb:FT 0 bF N (.slice none 0 0) []:=by rw [FT_eq];exact .inl ⟨rfl,rfl,rfl⟩
 have hc:FT 0 cF N (.slice none 0 0) []:=by rw [FT_eq];exact .inl ⟨rfl,rfl,rfl⟩
 have ha:FT 0 aF N (.slice (some ⟨g,0,none⟩) 1 1) [g]:=by
  rw [FT_eq]
  refine .inr ⟨_,_,[],rfl,rfl,h3,?_⟩
  show LT 0 [bF] N _ _
  rw [LT]
  exact ⟨_,[],[],[],rfl,rfl,hb,by rw [LT];exact ⟨rfl,rfl⟩⟩
 have hs:FT 0 sampleF N (.slice (some ⟨h,0,none⟩) 2 2) [h,g]:=by
  rw [FT_eq]
  refine .inr ⟨_,_,[g],rfl,rfl,h2,?_⟩
  show LT 0 [aF,cF] N _ _
  rw [LT]
  refine ⟨_,[g],[],_,rfl,rfl,ha,?_⟩
  rw [LT]
  exact ⟨_,[],[],[],rfl,rfl,hc,by rw [LT];exact ⟨rfl,rfl⟩⟩
 obtain ⟨A,c,he,hcc,hC⟩:=FT_reads 0 sampleF N _ _ hs
 injection he with h5 h6 h7
 rw [← h5] at hC
 exact hC
set_option maxHeartbeats 4000000 in
set_option maxRecDepth 100000 in
theorem sample_calls (w:World) :
  Calls Tryz.prog 59 #[] w fun e w'=>∃ A c,e=.returned (.agg #[.string ⟨#[]⟩,.int .u8 1,.string ⟨#[]⟩,.slice A 2 c])∧2≤c∧FileK.C w' A 2 [aF,cF]∧Below w.heap.size w w':=by
 go_enter Tryz.func59,Tryz.ntmps59
 go_wp2_with fail
 have h1:=two_boxes w #[.string ⟨#[]⟩,.int .u8 1,.string ⟨#[]⟩,.slice (some ⟨w.heap.size+2,0,none⟩) 2 2] #[.string ⟨#[98]⟩,.int .u8 2,.string ⟨#[120,10]⟩,.slice none 0 0] 25 25
 have h3:=three_boxes w #[.string ⟨#[]⟩,.int .u8 1,.string ⟨#[]⟩,.slice (some ⟨w.heap.size+2,0,none⟩) 2 2] #[.string ⟨#[98]⟩,.int .u8 2,.string ⟨#[120,10]⟩,.slice none 0 0] #[.string ⟨#[97]⟩,.int .u8 1,.string ⟨#[]⟩,.slice (some ⟨w.heap.size+1,0,none⟩) 1 1,.string ⟨#[99]⟩,.int .u8 3,.string ⟨#[47,97,47,98]⟩,.slice none 0 0] 25 25 25
 have h0:=(Below.heap_alloc _ (.cells #[.string ⟨#[97]⟩,.int .u8 1,.string ⟨#[]⟩,.slice (some ⟨w.heap.size+1,0,none⟩) 1 1,.string ⟨#[99]⟩,.int .u8 3,.string ⟨#[47,97,47,98]⟩,.slice none 0 0] 25) w.heap.size (by simp;omega)).trans h1.1
 have h2:=(Below.heap_alloc _ (.cells #[.string ⟨#[97]⟩,.int .u8 1,.string ⟨#[]⟩,.slice (some ⟨w.heap.size+1,0,none⟩) 1 1,.string ⟨#[99]⟩,.int .u8 3,.string ⟨#[47,97,47,98]⟩,.slice none 0 0] 25) (w.heap.size+1) (by simp)).trans h1.2
 refine bodyPost_ret (results_cell_row rfl _ _ w.heap.size 25 #[.string ⟨#[]⟩,.int .u8 1,.string ⟨#[]⟩,.slice (some ⟨w.heap.size+2,0,none⟩) 2 2] (0,0) _ rfl h0 Tryz.underlying25 rfl (by kernel_rfl)) rfl ?_
 exact ⟨some ⟨w.heap.size+2,0,none⟩,2,rfl,Nat.le_refl _,sample_mem h2 h3,((Below.refl _ _).alloc (Nat.le_refl _) _).alloc (by simp) _ |>.alloc (by simp;omega) _⟩
set_option maxHeartbeats 8000000 in
set_option maxRecDepth 100000 in
theorem lives_calls (w:World) (hG:Tab w) (hM:Maxed w):Calls Tryz.prog 13 #[] w fun e w'=>e=.returned (.bool true)∧Below w.heap.size w w':=by
 have HG:=Lib.hid hG
 have HM:=Lib.hid hM
 clear hG hM
 have HCK:Hid (∀ A c W,2≤c→FileK.C W A 2 [aF,cF]→Calls Tryz.prog 60 #[.agg #[.string ⟨#[]⟩,.int .u8 1,.string ⟨#[]⟩,.slice A 2 c]] W fun e w'=>∃ v,e=.returned (.tuple #[.int .i64 0,v])∧Below W.heap.size W w'):=Lib.hid fun A c W hc hC =>
  (show Calls Tryz.prog 60 #[fileV sampleF A c] W _ from check_calls sampleF A c W (by rw [sample_bulk];decide) hC hc).mono (by
   rintro e w' ⟨v,rfl,_,hb⟩
   exact ⟨v,by rw [sample_check],hb⟩)
 have HGT:Hid (∀ A c P W,2≤c→FileK.C W A 2 [aF,cF]→Kd.C Kd.string W P 2 [⟨#[97]⟩,⟨#[98]⟩]→Calls Tryz.prog 28 #[.agg #[.string ⟨#[]⟩,.int .u8 1,.string ⟨#[]⟩,.slice A 2 c],.slice P 2 2] W fun e w'=>∃ A3 c3,e=.returned (.tuple #[.agg #[.string ⟨#[98]⟩,.int .u8 2,.string ⟨#[120,10]⟩,.slice A3 0 c3],.int .i64 0])∧Below W.heap.size W w'):=Lib.hid fun A c P W hc hC hP =>
  (show Calls Tryz.prog 28 #[fileV sampleF A c,.slice P 2 2] W _ from Get_calls sampleF A c P 2 [⟨#[97]⟩,⟨#[98]⟩] W hC hc (by rw [sample_bulk];decide) hP (Nat.le_refl 2) (by decide)).mono (by
   rintro e w' ⟨v,rfl,hR,hb⟩
   rw [sample_get] at hR ⊢
   obtain ⟨A3,c3,rfl,_,_⟩:=Kd.R_reads hR
   exact ⟨A3,c3,rfl,hb⟩)
 have HPR:Hid (∀ A c W,2≤c→FileK.C W A 2 [aF,cF]→Tab W→Calls Tryz.prog 9 #[.agg #[.string ⟨#[]⟩,.int .u8 1,.string ⟨#[]⟩,.slice A 2 c]] W fun e w'=>e=.returned (.tuple #[(.string ⟨#[100,105,114,32,34,47,97,34,10,116,101,120,116,32,34,47,97,47,98,34,32,34,120,92,110,34,10,108,105,110,107,32,34,47,99,34,32,34,47,97,47,98,34,10]⟩),.int .i64 0])∧Below W.heap.size W w'):=Lib.hid fun A c W hc hC hT =>
  (show Calls Tryz.prog 9 #[fileV sampleF A c] W _ from print_calls sampleF A c W (by rw [sample_bulk];decide) hC hc hT).mono (by
   rintro e w' ⟨rfl,hb⟩
   exact ⟨by rw [sample_right,if_pos rfl,sample_print];rfl,hb⟩)
 have HRD:Hid (∀ W,Tab W→Maxed W→Calls Tryz.prog 11 #[.string ⟨#[100,105,114,32,34,47,97,34,10,116,101,120,116,32,34,47,97,47,98,34,32,34,120,92,110,34,10,108,105,110,107,32,34,47,99,34,32,34,47,97,47,98,34,10]⟩] W fun e w'=>∃ A c,e=.returned (.tuple #[.agg #[.string ⟨#[]⟩,.int .u8 1,.string ⟨#[]⟩,.slice A 2 c],.int .i64 0,.agg #[.int .i64 0,.int .i64 0]])∧2≤c∧FileK.C w' A 2 [aF,cF]∧Below W.heap.size W w'):=Lib.hid fun W hT hX =>
  (show Calls Tryz.prog 11 #[.string sampleT] W _ from Read_calls sampleT W (by decide) hT hX).mono (by
   rintro e w' ⟨A,c,rfl,hc,hC,hb⟩
   rw [sample_read] at hc hC ⊢
   exact ⟨A,c,rfl,hc,hC,hb⟩)
 have HSM:Hid (∀ A c B d W,2≤c→FileK.C W A 2 [aF,cF]→2≤d→FileK.C W B 2 [aF,cF]→Calls Tryz.prog 61 #[.agg #[.string ⟨#[]⟩,.int .u8 1,.string ⟨#[]⟩,.slice A 2 c],.agg #[.string ⟨#[]⟩,.int .u8 1,.string ⟨#[]⟩,.slice B 2 d]] W fun e w'=>e=.returned (.bool true)∧Below W.heap.size W w'):=Lib.hid fun A c B d W hc hC hd hD =>
  (show Calls Tryz.prog 61 #[fileV sampleF A c,fileV sampleF B d] W _ from same_file _ sampleF sampleF A c B d W (Nat.le_refl _) (by rw [sample_bulk];decide) hC hc hD hd).mono (by
   rintro e w' ⟨rfl,hb⟩
   exact ⟨by rw [sameT_self],hb⟩)
 have HSA:=Lib.hid (sample_calls w)
 go_enter Tryz.func13,Tryz.ntmps13
 go_wp2_with fail
 refine HSA.out.mono ?_
 rintro e w1 ⟨A,c,rfl,hc,hC,hb1⟩
 have HC:=Lib.hid hC
 have hbx:=below_alloc (Below.refl w1.heap.size w1) (.cells #[.string ⟨#[]⟩,.int .u8 1,.string ⟨#[]⟩,.slice A 2 c] 25)
 have hnx:=blk_new w1 (.cells #[.string ⟨#[]⟩,.int .u8 1,.string ⟨#[]⟩,.slice A 2 c] 25)
 have hzx:w1.heap.size<(w1.alloc (.cells #[.string ⟨#[]⟩,.int .u8 1,.string ⟨#[]⟩,.slice A 2 c] 25)).heap.size:=by simp
 clear hC HSA
 go_wp2_with fail
 generalize w1.alloc (.cells #[.string ⟨#[]⟩,.int .u8 1,.string ⟨#[]⟩,.slice A 2 c] 25)=W1 at *
 refine (HCK.out A c W1 hc (Kd.C_below HC.out hbx)).mono ?_
 rintro e w2 ⟨v2,rfl,hb2⟩
 have hb2b:=bstep hbx hbx.size hb2
 obtain ⟨y0,y1,y2,y3⟩:=c4A ((hb2.block w1.heap.size hzx).trans hnx)
 have hpl:=own_lit_of (enc:=Value.string) w2 0 9 [(⟨#[97]⟩:ByteArray),⟨#[98]⟩] (Nat.zero_le _) (by decide)
 have hbp:=below_alloc (Below.refl w2.heap.size w2) (.cells #[.string ⟨#[97]⟩,.string ⟨#[98]⟩] 9)
 change (w2.alloc (.cells #[.string ⟨#[97]⟩,.string ⟨#[98]⟩] 9)).ownsRow 0 9 1 (.slice (some ⟨w2.heap.size,0,none⟩) 2 2) 2 _ at hpl
 go_wp2_with fail
 generalize w2.alloc (.cells #[.string ⟨#[97]⟩,.string ⟨#[98]⟩] 9)=W2 at *
 have hPR:=Kd.R_of_own (h1:=fun _=>rfl) (ok:=fun _=>True) hpl (fun _ _=>trivial)
 have hbP:=bstep hb2b hb2b.size hbp
 refine (HGT.out A c _ W2 hc (Kd.C_below HC.out hbP) (Kd.R_reads' hPR).2.2).mono ?_
 rintro e w3 ⟨A3,c3,rfl,hb3⟩
 have hb3b:=bstep hbP hbP.size hb3
 clear y0 y1 y2 y3 hpl hPR
 have hbq:=below_alloc (Below.refl w3.heap.size w3) (.cells #[.string ⟨#[98]⟩,.int .u8 2,.string ⟨#[120,10]⟩,.slice A3 0 c3] 25)
 have hnq:=blk_new w3 (.cells #[.string ⟨#[98]⟩,.int .u8 2,.string ⟨#[120,10]⟩,.slice A3 0 c3] 25)
 have hzq:w3.heap.size<(w3.alloc (.cells #[.string ⟨#[98]⟩,.int .u8 2,.string ⟨#[120,10]⟩,.slice A3 0 c3] 25)).heap.size:=by simp
 have hbQ:=bstep hb3b hb3b.size hbq
 have hk3:W1.heap.size≤w3.heap.size:=Nat.le_trans hb2.size (Nat.le_trans hbp.size hb3.size)
 have hX:∀ W,Below w3.heap.size w3 W→W.heap[w1.heap.size]? = some (.cells #[.string ⟨#[]⟩,.int .u8 1,.string ⟨#[]⟩,.slice A 2 c] 25 (0,0)):=fun W h=>(h.block w1.heap.size (by omega)).trans ((hb3.block w1.heap.size (by have:=hbp.size;have:=hb2.size;omega)).trans ((hbp.block w1.heap.size (by have:=hb2.size;omega)).trans ((hb2.block w1.heap.size hzx).trans hnx)))
 have HX:=Lib.hid hX
 obtain ⟨y0,y1,y2,y3⟩:=c4A (HX.out _ hbq)
 clear hX
 go_wp2_with fail
 generalize w3.alloc (.cells #[.string ⟨#[98]⟩,.int .u8 2,.string ⟨#[120,10]⟩,.slice A3 0 c3] 25)=W3 at *
 have hwQ:=bstep hb1 hb1.size hbQ
 refine (HPR.out A c W3 hc (Kd.C_below HC.out hbQ) (Tab_b HG.out hwQ)).mono ?_
 rintro e w4 ⟨rfl,hb4⟩
 have hb4b:=bstep hbQ hbQ.size hb4
 have hw4:=bstep hb1 hb1.size hb4b
 clear y0 y1 y2 y3
 go_wp2_with fail
 refine (HRD.out w4 (Tab_b HG.out hw4) (Maxed_below HM.out hw4)).mono ?_
 rintro e w5 ⟨B,d,rfl,hd,hD,hb5⟩
 have HD:=Lib.hid hD
 clear hD
 have hb35:=bstep hb4 hb4.size hb5
 have hbu:=two_boxes w5 #[.string ⟨#[]⟩,.int .u8 1,.string ⟨#[]⟩,.slice B 2 d] #[.int .i64 0,.int .i64 0] 25 30
 have hbv:=below_alloc (below_alloc (Below.refl w5.heap.size w5) (.cells #[.string ⟨#[]⟩,.int .u8 1,.string ⟨#[]⟩,.slice B 2 d] 25)) (.cells #[.int .i64 0,.int .i64 0] 30)
 obtain ⟨z0,z1,z2,z3⟩:=c4A hbu.1
 have hb36:=bstep hb35 hb35.size hbv
 have q2:=cell_of (j:=2) ((hb36.block w3.heap.size hzq).trans hnq) rfl
 have hb37:=bstep hbq hbq.size hb36
 obtain ⟨y0,y1,y2,y3⟩:=c4A (HX.out _ hb37)
 go_wp2_with fail
 generalize ((w5.alloc (.cells #[.string ⟨#[]⟩,.int .u8 1,.string ⟨#[]⟩,.slice B 2 d] 25)).alloc (.cells #[.int .i64 0,.int .i64 0] 30))=W5 at *
 have hb15:=bstep hbQ hbQ.size hb36
 refine (HSM.out A c B d W5 hc (Kd.C_below HC.out hb15) hd (Kd.C_below HD.out hbv)).mono ?_
 rintro e w6 ⟨rfl,hb6⟩
 have hw6:=bstep hb1 hb1.size (bstep hb15 hb15.size hb6)
 clear y0 y1 y2 y3 z0 z1 z2 z3 q2
 go_wp2_with fail
 go_ret
 exact ⟨rfl,hw6⟩
end Go.Proofs.YtdnhjnlhmfajnaaGreatDoor.G
