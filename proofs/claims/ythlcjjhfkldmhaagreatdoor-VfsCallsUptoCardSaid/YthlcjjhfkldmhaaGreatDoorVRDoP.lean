import Derived.Test.YthlcjjhfkldmhaaGreatDoorKit
import Derived.Test.YthlcjjhfkldmhaaGreatDoorVApi
import Derived.Test.YthlcjjhfkldmhaaGreatDoorVFrame
import Derived.Test.YthlcjjhfkldmhaaGreatDoorVAppend
import Derived.Test.YthlcjjhfkldmhaaGreatDoorSq
import Derived.Test.YthlcjjhfkldmhaaGreatDoorVTurns
import Derived.Test.YthlcjjhfkldmhaaGreatDoorVRReal
import Derived.Test.YthlcjjhfkldmhaaGreatDoorPRef2
import Derived.Test.YthlcjjhfkldmhaaGreatDoorPNormal
set_option linter.unusedVariables false
set_option linter.unusedSimpArgs false
section
namespace Go.Proofs.YthlcjjhfkldmhaaGreatDoor.G
open Go.RowKit Go.Lib Go.Proofs.YthlcjjhfkldmhaaGreatDoorW.PrintWords Go.Proofs.YthlcjjhfkldmhaaGreatDoorW.PrintLast
set_option linter.unusedVariables false
set_option linter.unusedSimpArgs false
def doV (f:FsV) (x:Step):FsV×Told×Int :=
 if x.kind=1 then ((callV f 1 ⟨x.path,[],⟨#[]⟩⟩).1,⟨(callV f 1 ⟨x.path,[],⟨#[]⟩⟩).2.1.kind,(callV f 1 ⟨x.path,[],⟨#[]⟩⟩).2.1.size,⟨#[]⟩⟩,(callV f 1 ⟨x.path,[],⟨#[]⟩⟩).2.2)
 else if x.kind=2 then ((callV f 2 ⟨x.path,[],⟨#[]⟩⟩).1,told0 (callV f 2 ⟨x.path,[],⟨#[]⟩⟩).2.1.data,(callV f 2 ⟨x.path,[],⟨#[]⟩⟩).2.2)
 else if x.kind=3 then ((callV f 3 ⟨x.path,[],⟨#[]⟩⟩).1,told0 ⟨#[]⟩,(callV f 3 ⟨x.path,[],⟨#[]⟩⟩).2.2)
 else if x.kind=4 then ((callV f 4 ⟨x.path,[],x.data⟩).1,told0 ⟨#[]⟩,(callV f 4 ⟨x.path,[],x.data⟩).2.2)
 else if x.kind=5 then ((callV f 5 ⟨x.path,x.dest,⟨#[]⟩⟩).1,told0 ⟨#[]⟩,(callV f 5 ⟨x.path,x.dest,⟨#[]⟩⟩).2.2)
 else (f,told0 ⟨#[]⟩,0)
def FsMid (w W:World) (g:Nat) (O:Nat→Prop) (tb:Option Nat) (f':FsV) (w1:World):Prop :=
 (∃ tb',(tb'=tb∨∃ j,tb'=some j∧W.heap.size≤j)∧FsAt w1 g (fun k=>O k∨W.heap.size≤k∧k<w1.heap.size) tb' f')∧Only (fun k=>k=g∨tb=some k∨w.heap.size≤k) W w1
theorem FsPost.mid {w W w1:World} {g:Nat} {O:Nat→Prop} {tb:Option Nat} {f':FsV} (h:FsPost W g O tb f' w1):FsMid w W g O tb f' w1:=⟨h.1,h.2.mono fun k _ hk=>hk.imp id .inl⟩
theorem FsMid.put {w W w1:World} {g:Nat} {O:Nat→Prop} {tb:Option Nat} {f':FsV} (h:FsMid w W g O tb f' w1) {p:Addr} (hk:w.heap.size≤p.block) (hl:p.block<W.heap.size) (hg:g<w.heap.size) (hO:∀ k,O k→k<w.heap.size) (v:Value):FsMid w W g O tb f' (w1.setCell p v):=by
 obtain ⟨⟨tb',h1,h2⟩,h3⟩:=h
 have hz:(w1.setCell p v).heap.size=w1.heap.size:=by simp [World.setCell]
 refine ⟨⟨tb',h1,?_⟩,h3.trans (Only.setCell w1 p v) (fun _ _ h=>h) (fun k _ h=>.inr (.inr (by omega)))⟩
 rw [hz]
 exact h2.keep (fun k hk'=>Below.heap_setCell _ _ _ _ (by rcases hk' with h | h | h;(· omega);(· have:=hO k h;omega);(· omega))) (by omega)
theorem FsMid.done {w W w1:World} {g:Nat} {O:Nat→Prop} {tb:Option Nat} {f f':FsV} (h:FsMid w W g O tb f' w1) (hfs:FsAt w g O tb f) (hb:Below w.heap.size w W):FsPost w g O tb f' w1:=by
 obtain ⟨⟨tb',h1,h2⟩,h3⟩:=h
 exact fsPost_lift hfs hb (fun k hk h=>by rcases h with h | h | h;(· exact .inl h);(· exact .inr h);(· omega)) h1 h2 h3
theorem tb_lt {w:World} {g:Nat} {O:Nat→Prop} {tb:Option Nat} {f:FsV} (h:FsAt w g O tb f):∀ k,tb=some k→k<w.heap.size:=by
 obtain ⟨A,c,v,m,lo,hi,_,_,_,_,h5,h6,_⟩:=h
 exact fun k e=>Kd.R_lt h5 k (h6.trans e)
theorem boxes3 (w:World) (a b c:Array Value) (t u v:TypeId):(((w.alloc (.cells a t)).alloc (.cells b u)).alloc (.cells c v)).heap[w.heap.size]? = some (.cells a t (0,0))∧(((w.alloc (.cells a t)).alloc (.cells b u)).alloc (.cells c v)).heap[w.heap.size+1]? = some (.cells b u (0,0))∧(((w.alloc (.cells a t)).alloc (.cells b u)).alloc (.cells c v)).heap[w.heap.size+2]? = some (.cells c v (0,0)):=by
 have h:=two_boxes w a b t u
 have h3:=blk_new ((w.alloc (.cells a t)).alloc (.cells b u)) (.cells c v)
 have hs:((w.alloc (.cells a t)).alloc (.cells b u)).heap.size=w.heap.size+2:=by simp
 rw [hs] at h3
 exact ⟨(Below.heap_alloc _ _ _ (by rw [hs];omega)).trans h.1,(Below.heap_alloc _ _ _ (by rw [hs];omega)).trans h.2,h3⟩
set_option maxHeartbeats 8000000 in
set_option maxRecDepth 100000 in
theorem do_calls (w:World) (g:Nat) (O:Nat→Prop) (tb:Option Nat) (f:FsV) (hfs:FsAt w g O tb f) (hgO:¬ O g) (hbt:f.tree.bulk≤100000000) (htl:f.trace.length≤2000000) (x:Step) (A B:Option Addr) (c d:Nat) (HP:PathAt w g tb A x.path) (hc:x.path.length≤c) (hpB:P.sumP x.path≤1099511627776) (HQ:PathAt w g tb B x.dest) (hd:x.dest.length≤d) (hqB:P.sumP x.dest≤1099511627776) (hdb:x.data.size≤100000000) :
  Calls Tryz.prog 9 #[.pointer (some ⟨g,0,none⟩),.agg #[.int .u8 x.kind,.slice A x.path.length c,.slice B x.dest.length d,.string x.data]] w fun e w'=>e=.returned (.tuple #[.agg #[.int .u8 (doV f x).2.1.kind,.int .i64 (doV f x).2.1.size,.string (doV f x).2.1.data],.int .i64 (doV f x).2.2])∧FsPost w g O tb (doV f x).1 w':=by
 have h3:=boxes3 w #[.int .u8 x.kind,.slice A x.path.length c,.slice B x.dest.length d,.string x.data] #[.int .u8 0,.int .i64 0,.string ⟨#[]⟩] #[.int .u8 0,.int .i64 0,.string ⟨#[]⟩] 42 46 46
 have hb0:=(((Below.refl w.heap.size w).alloc (Nat.le_refl _) (.cells #[.int .u8 x.kind,.slice A x.path.length c,.slice B x.dest.length d,.string x.data] 42)).alloc (by simp) (.cells #[.int .u8 0,.int .i64 0,.string ⟨#[]⟩] 46)).alloc (by simp;omega) (.cells #[.int .u8 0,.int .i64 0,.string ⟨#[]⟩] 46)
 have hgl:=hfs.lt
 have hlts:=hfs.lts
 have htbl:=tb_lt hfs
 have HFS:=Lib.hid hfs
 have HF0:=Lib.hid (hfs.below hb0)
 have HP0:=Lib.hid (Kd.F_below HP hb0)
 have HQ0:=Lib.hid (Kd.F_below HQ hb0)
 have hs0:(((w.alloc (.cells #[.int .u8 x.kind,.slice A x.path.length c,.slice B x.dest.length d,.string x.data] 42)).alloc (.cells #[.int .u8 0,.int .i64 0,.string ⟨#[]⟩] 46)).alloc (.cells #[.int .u8 0,.int .i64 0,.string ⟨#[]⟩] 46)).heap.size=w.heap.size+3:=by simp
 have HB0:=Lib.hid hb0
 have H0:=Lib.hid h3.1
 have H1:=Lib.hid h3.2.1
 have H2:=Lib.hid h3.2.2
 clear hfs hb0 h3 HP HQ
 have hkk:x.kind=1∨x.kind=2∨x.kind=3∨x.kind=4∨x.kind=5∨(x.kind≠1∧x.kind≠2∧x.kind≠3∧x.kind≠4∧x.kind≠5):=by omega
 go_enter Tryz.func9,Tryz.ntmps9
 obtain ⟨l0,l1,l2,l3⟩:=c4A H0.out
 rcases hkk with hk | hk | hk | hk | hk | ⟨k1,k2,k3,k4,k5⟩
 ·skip
  have b1:(x.kind == 1)=true:=beq_iff_eq.2 hk
  obtain ⟨⟨f1,tl,wy⟩,hcv⟩:∃ r,callV f 1 ⟨x.path,[],⟨#[]⟩⟩=r:=⟨_,rfl⟩
  have HD:=Lib.hid (show doV f x=(f1,⟨tl.kind,tl.size,⟨#[]⟩⟩,wy) from by
   unfold doV
   rw [if_pos hk]
   rw [hcv])
  have HCV:=Lib.hid hcv
  rw [HD.out]
  clear hk hcv
  go_wp2_with fail
  generalize (((w.alloc (.cells #[.int .u8 x.kind,.slice A x.path.length c,.slice B x.dest.length d,.string x.data] 42)).alloc (.cells #[.int .u8 0,.int .i64 0,.string ⟨#[]⟩] 46)).alloc (.cells #[.int .u8 0,.int .i64 0,.string ⟨#[]⟩] 46))=W0 at *
  have hc1:=lstat_api W0 g O tb f HF0.out hgO hbt htl A c x.path HP0.out hc hpB
  rw [show callV f 1 ⟨x.path,[],⟨#[]⟩⟩=(f1,tl,wy) from HCV.out] at hc1
  refine hc1.mono ?_
  clear hc1
  rintro e w1 ⟨rfl,hp1⟩
  have HP1:=Lib.hid (FsPost.mid (w:=w) hp1)
  have hk1:∀ j,w.heap.size≤j→j<W0.heap.size→w1.heap[j]? = W0.heap[j]? := fun j h1 h2=>hp1.2.block j h2 fun h=>by
   rcases h with h | h
   ·omega
   ·have:=htbl j h;omega
  have H11:=Lib.hid ((hk1 (w.heap.size+1) (by omega) (by omega)).trans H1.out)
  have H12:=Lib.hid ((hk1 (w.heap.size+2) (by omega) (by omega)).trans H2.out)
  clear hp1 hk1 l0 l1 l2 l3
  have e0:=cell_of (j:=0) H12.out rfl
  have g0:=unfr H12.out 0
  have n0:=cell_of (j:=0) H11.out rfl
  have m0:=unfr H11.out 0
  have e1:=cell_of (j:=1) H12.out rfl
  have g1:=unfr H12.out 1
  have n1:=cell_of (j:=1) H11.out rfl
  have m1:=unfr H11.out 1
  have e2:=cell_of (j:=2) H12.out rfl
  have g2:=unfr H12.out 2
  have n2:=cell_of (j:=2) H11.out rfl
  have m2:=unfr H11.out 2
  have H22:=Lib.hid (blk_put (blk_put H12.out 0 (.int .u8 tl.kind) rfl) 1 (.int .i64 tl.size) rfl)
  have H21:=Lib.hid ((Below.heap_setCell (w1.setCell ⟨w.heap.size+2,0,none⟩ (.int .u8 tl.kind)) ⟨w.heap.size+2,1,none⟩ (.int .i64 tl.size) (w.heap.size+1) (by simp only;omega)).trans ((Below.heap_setCell w1 ⟨w.heap.size+2,0,none⟩ (.int .u8 tl.kind) (w.heap.size+1) (by simp only;omega)).trans H11.out))
  have HM2:=Lib.hid ((HP1.out.put (p:=⟨w.heap.size+2,0,none⟩) (by simp only;omega) (by simp only;omega) hgl hlts (.int .u8 tl.kind)).put (p:=⟨w.heap.size+2,1,none⟩) (by simp only;omega) (by simp only;omega) hgl hlts (.int .i64 tl.size))
  obtain ⟨W2,hW2⟩:∃ W,((w1.setCell ⟨w.heap.size+2,0,none⟩ (.int .u8 tl.kind)).setCell ⟨w.heap.size+2,1,none⟩ (.int .i64 tl.size))=W:=⟨_,rfl⟩
  rw [hW2] at H22 H21 HM2
  have e02:=cell_of (j:=0) H22.out rfl
  have n02:=cell_of (j:=0) H21.out rfl
  have m02:=unfr H21.out 0
  have e12:=cell_of (j:=1) H22.out rfl
  have n12:=cell_of (j:=1) H21.out rfl
  have m12:=unfr H21.out 1
  have e22:=cell_of (j:=2) H22.out rfl
  have n22:=cell_of (j:=2) H21.out rfl
  have m22:=unfr H21.out 2
  go_wp2_with fail
  refine bodyPost_ret (results_ct rfl _ _ (w.heap.size+1) 46 #[.int .u8 tl.kind,.int .i64 tl.size,.string ⟨#[]⟩] (0,0) _ rfl (blk_put (blk_put (blk_put H21.out 0 (.int .u8 tl.kind) rfl) 1 (.int .i64 tl.size) rfl) 2 (.string ⟨#[]⟩) rfl) Tryz.underlying46 rfl (by kernel_rfl)) rfl ?_
  exact ⟨rfl,FsMid.done (((HM2.out.put (p:=⟨w.heap.size+1,0,none⟩) (by simp only;omega) (by simp only;omega) hgl hlts (.int .u8 tl.kind)).put (p:=⟨w.heap.size+1,1,none⟩) (by simp only;omega) (by simp only;omega) hgl hlts (.int .i64 tl.size)).put (p:=⟨w.heap.size+1,2,none⟩) (by simp only;omega) (by simp only;omega) hgl hlts (.string ⟨#[]⟩)) HFS.out HB0.out⟩
 ·skip
  have b1:(x.kind == 1)=false:=beq_eq_false_iff_ne.2 (by omega)
  have b2:(x.kind == 2)=true:=beq_iff_eq.2 hk
  obtain ⟨⟨f1,tl,wy⟩,hcv⟩:∃ r,callV f 2 ⟨x.path,[],⟨#[]⟩⟩=r:=⟨_,rfl⟩
  have HD:=Lib.hid (show doV f x=(f1,told0 tl.data,wy) from by
   unfold doV
   rw [if_neg (by omega)]
   rw [if_pos hk]
   rw [hcv])
  have HCV:=Lib.hid hcv
  rw [HD.out]
  clear hk hcv
  go_wp2_with fail
  generalize (((w.alloc (.cells #[.int .u8 x.kind,.slice A x.path.length c,.slice B x.dest.length d,.string x.data] 42)).alloc (.cells #[.int .u8 0,.int .i64 0,.string ⟨#[]⟩] 46)).alloc (.cells #[.int .u8 0,.int .i64 0,.string ⟨#[]⟩] 46))=W0 at *
  have hc1:=read_api W0 g O tb f HF0.out hgO hbt htl A c x.path HP0.out hc hpB
  rw [show callV f 2 ⟨x.path,[],⟨#[]⟩⟩=(f1,tl,wy) from HCV.out] at hc1
  refine hc1.mono ?_
  clear hc1
  rintro e w1 ⟨rfl,hp1⟩
  have HP1:=Lib.hid (FsPost.mid (w:=w) hp1)
  have hk1:∀ j,w.heap.size≤j→j<W0.heap.size→w1.heap[j]? = W0.heap[j]? := fun j h1 h2=>hp1.2.block j h2 fun h=>by
   rcases h with h | h
   ·omega
   ·have:=htbl j h;omega
  have H11:=Lib.hid ((hk1 (w.heap.size+1) (by omega) (by omega)).trans H1.out)
  have H12:=Lib.hid ((hk1 (w.heap.size+2) (by omega) (by omega)).trans H2.out)
  clear hp1 hk1 l0 l1 l2 l3
  have e0:=cell_of (j:=0) H12.out rfl
  have g0:=unfr H12.out 0
  have n0:=cell_of (j:=0) H11.out rfl
  have m0:=unfr H11.out 0
  have e1:=cell_of (j:=1) H12.out rfl
  have g1:=unfr H12.out 1
  have n1:=cell_of (j:=1) H11.out rfl
  have m1:=unfr H11.out 1
  have e2:=cell_of (j:=2) H12.out rfl
  have g2:=unfr H12.out 2
  have n2:=cell_of (j:=2) H11.out rfl
  have m2:=unfr H11.out 2
  have H22:=Lib.hid (blk_put H12.out 2 (.string tl.data) rfl)
  have H21:=Lib.hid ((Below.heap_setCell w1 ⟨w.heap.size+2,2,none⟩ (.string tl.data) (w.heap.size+1) (by simp only;omega)).trans H11.out)
  have HM2:=Lib.hid (HP1.out.put (p:=⟨w.heap.size+2,2,none⟩) (by simp only;omega) (by simp only;omega) hgl hlts (.string tl.data))
  obtain ⟨W2,hW2⟩:∃ W,(w1.setCell ⟨w.heap.size+2,2,none⟩ (.string tl.data))=W:=⟨_,rfl⟩
  rw [hW2] at H22 H21 HM2
  have e02:=cell_of (j:=0) H22.out rfl
  have n02:=cell_of (j:=0) H21.out rfl
  have m02:=unfr H21.out 0
  have e12:=cell_of (j:=1) H22.out rfl
  have n12:=cell_of (j:=1) H21.out rfl
  have m12:=unfr H21.out 1
  have e22:=cell_of (j:=2) H22.out rfl
  have n22:=cell_of (j:=2) H21.out rfl
  have m22:=unfr H21.out 2
  go_wp2_with fail
  refine bodyPost_ret (results_ct rfl _ _ (w.heap.size+1) 46 #[.int .u8 0,.int .i64 0,.string tl.data] (0,0) _ rfl (blk_put (blk_put (blk_put H21.out 0 (.int .u8 0) rfl) 1 (.int .i64 0) rfl) 2 (.string tl.data) rfl) Tryz.underlying46 rfl (by kernel_rfl)) rfl ?_
  exact ⟨rfl,FsMid.done (((HM2.out.put (p:=⟨w.heap.size+1,0,none⟩) (by simp only;omega) (by simp only;omega) hgl hlts (.int .u8 0)).put (p:=⟨w.heap.size+1,1,none⟩) (by simp only;omega) (by simp only;omega) hgl hlts (.int .i64 0)).put (p:=⟨w.heap.size+1,2,none⟩) (by simp only;omega) (by simp only;omega) hgl hlts (.string tl.data)) HFS.out HB0.out⟩
 ·skip
  have b1:(x.kind == 1)=false:=beq_eq_false_iff_ne.2 (by omega)
  have b2:(x.kind == 2)=false:=beq_eq_false_iff_ne.2 (by omega)
  have b3:(x.kind == 3)=true:=beq_iff_eq.2 hk
  obtain ⟨⟨f1,tl,wy⟩,hcv⟩:∃ r,callV f 3 ⟨x.path,[],⟨#[]⟩⟩=r:=⟨_,rfl⟩
  have HD:=Lib.hid (show doV f x=(f1,told0 ⟨#[]⟩,wy) from by
   unfold doV
   rw [if_neg (by omega)]
   rw [if_neg (by omega)]
   rw [if_pos hk]
   rw [hcv])
  have HCV:=Lib.hid hcv
  rw [HD.out]
  clear hk hcv
  go_wp2_with fail
  generalize (((w.alloc (.cells #[.int .u8 x.kind,.slice A x.path.length c,.slice B x.dest.length d,.string x.data] 42)).alloc (.cells #[.int .u8 0,.int .i64 0,.string ⟨#[]⟩] 46)).alloc (.cells #[.int .u8 0,.int .i64 0,.string ⟨#[]⟩] 46))=W0 at *
  have hc1:=create_api W0 g O tb f HF0.out hgO hbt htl A c x.path HP0.out hc hpB
  rw [show callV f 3 ⟨x.path,[],⟨#[]⟩⟩=(f1,tl,wy) from HCV.out] at hc1
  refine hc1.mono ?_
  clear hc1
  rintro e w1 ⟨rfl,hp1⟩
  have HP1:=Lib.hid (FsPost.mid (w:=w) hp1)
  have hk1:∀ j,w.heap.size≤j→j<W0.heap.size→w1.heap[j]? = W0.heap[j]? := fun j h1 h2=>hp1.2.block j h2 fun h=>by
   rcases h with h | h
   ·omega
   ·have:=htbl j h;omega
  have H11:=Lib.hid ((hk1 (w.heap.size+1) (by omega) (by omega)).trans H1.out)
  have H12:=Lib.hid ((hk1 (w.heap.size+2) (by omega) (by omega)).trans H2.out)
  clear hp1 hk1 l0 l1 l2 l3
  have e0:=cell_of (j:=0) H12.out rfl
  have g0:=unfr H12.out 0
  have n0:=cell_of (j:=0) H11.out rfl
  have m0:=unfr H11.out 0
  have e1:=cell_of (j:=1) H12.out rfl
  have g1:=unfr H12.out 1
  have n1:=cell_of (j:=1) H11.out rfl
  have m1:=unfr H11.out 1
  have e2:=cell_of (j:=2) H12.out rfl
  have g2:=unfr H12.out 2
  have n2:=cell_of (j:=2) H11.out rfl
  have m2:=unfr H11.out 2
  have H22:=H12
  have H21:=H11
  have HM2:=HP1
  go_wp2_with fail
  refine bodyPost_ret (results_ct rfl _ _ (w.heap.size+1) 46 #[.int .u8 0,.int .i64 0,.string ⟨#[]⟩] (0,0) _ rfl (blk_put (blk_put (blk_put H21.out 0 (.int .u8 0) rfl) 1 (.int .i64 0) rfl) 2 (.string ⟨#[]⟩) rfl) Tryz.underlying46 rfl (by kernel_rfl)) rfl ?_
  exact ⟨rfl,FsMid.done (((HM2.out.put (p:=⟨w.heap.size+1,0,none⟩) (by simp only;omega) (by simp only;omega) hgl hlts (.int .u8 0)).put (p:=⟨w.heap.size+1,1,none⟩) (by simp only;omega) (by simp only;omega) hgl hlts (.int .i64 0)).put (p:=⟨w.heap.size+1,2,none⟩) (by simp only;omega) (by simp only;omega) hgl hlts (.string ⟨#[]⟩)) HFS.out HB0.out⟩
 ·skip
  have b1:(x.kind == 1)=false:=beq_eq_false_iff_ne.2 (by omega)
  have b2:(x.kind == 2)=false:=beq_eq_false_iff_ne.2 (by omega)
  have b3:(x.kind == 3)=false:=beq_eq_false_iff_ne.2 (by omega)
  have b4:(x.kind == 4)=true:=beq_iff_eq.2 hk
  obtain ⟨⟨f1,tl,wy⟩,hcv⟩:∃ r,callV f 4 ⟨x.path,[],x.data⟩=r:=⟨_,rfl⟩
  have HD:=Lib.hid (show doV f x=(f1,told0 ⟨#[]⟩,wy) from by
   unfold doV
   rw [if_neg (by omega)]
   rw [if_neg (by omega)]
   rw [if_neg (by omega)]
   rw [if_pos hk]
   rw [hcv])
  have HCV:=Lib.hid hcv
  rw [HD.out]
  clear hk hcv
  go_wp2_with fail
  generalize (((w.alloc (.cells #[.int .u8 x.kind,.slice A x.path.length c,.slice B x.dest.length d,.string x.data] 42)).alloc (.cells #[.int .u8 0,.int .i64 0,.string ⟨#[]⟩] 46)).alloc (.cells #[.int .u8 0,.int .i64 0,.string ⟨#[]⟩] 46))=W0 at *
  have hc1:=append_api W0 g O tb f HF0.out hgO hbt htl A c x.path HP0.out hc hpB x.data hdb
  rw [show callV f 4 ⟨x.path,[],x.data⟩=(f1,tl,wy) from HCV.out] at hc1
  refine hc1.mono ?_
  clear hc1
  rintro e w1 ⟨rfl,hp1⟩
  have HP1:=Lib.hid (FsPost.mid (w:=w) hp1)
  have hk1:∀ j,w.heap.size≤j→j<W0.heap.size→w1.heap[j]? = W0.heap[j]? := fun j h1 h2=>hp1.2.block j h2 fun h=>by
   rcases h with h | h
   ·omega
   ·have:=htbl j h;omega
  have H11:=Lib.hid ((hk1 (w.heap.size+1) (by omega) (by omega)).trans H1.out)
  have H12:=Lib.hid ((hk1 (w.heap.size+2) (by omega) (by omega)).trans H2.out)
  clear hp1 hk1 l0 l1 l2 l3
  have e0:=cell_of (j:=0) H12.out rfl
  have g0:=unfr H12.out 0
  have n0:=cell_of (j:=0) H11.out rfl
  have m0:=unfr H11.out 0
  have e1:=cell_of (j:=1) H12.out rfl
  have g1:=unfr H12.out 1
  have n1:=cell_of (j:=1) H11.out rfl
  have m1:=unfr H11.out 1
  have e2:=cell_of (j:=2) H12.out rfl
  have g2:=unfr H12.out 2
  have n2:=cell_of (j:=2) H11.out rfl
  have m2:=unfr H11.out 2
  have H22:=H12
  have H21:=H11
  have HM2:=HP1
  go_wp2_with fail
  refine bodyPost_ret (results_ct rfl _ _ (w.heap.size+1) 46 #[.int .u8 0,.int .i64 0,.string ⟨#[]⟩] (0,0) _ rfl (blk_put (blk_put (blk_put H21.out 0 (.int .u8 0) rfl) 1 (.int .i64 0) rfl) 2 (.string ⟨#[]⟩) rfl) Tryz.underlying46 rfl (by kernel_rfl)) rfl ?_
  exact ⟨rfl,FsMid.done (((HM2.out.put (p:=⟨w.heap.size+1,0,none⟩) (by simp only;omega) (by simp only;omega) hgl hlts (.int .u8 0)).put (p:=⟨w.heap.size+1,1,none⟩) (by simp only;omega) (by simp only;omega) hgl hlts (.int .i64 0)).put (p:=⟨w.heap.size+1,2,none⟩) (by simp only;omega) (by simp only;omega) hgl hlts (.string ⟨#[]⟩)) HFS.out HB0.out⟩
 ·skip
  have b1:(x.kind == 1)=false:=beq_eq_false_iff_ne.2 (by omega)
  have b2:(x.kind == 2)=false:=beq_eq_false_iff_ne.2 (by omega)
  have b3:(x.kind == 3)=false:=beq_eq_false_iff_ne.2 (by omega)
  have b4:(x.kind == 4)=false:=beq_eq_false_iff_ne.2 (by omega)
  have b5:(x.kind == 5)=true:=beq_iff_eq.2 hk
  obtain ⟨⟨f1,tl,wy⟩,hcv⟩:∃ r,callV f 5 ⟨x.path,x.dest,⟨#[]⟩⟩=r:=⟨_,rfl⟩
  have HD:=Lib.hid (show doV f x=(f1,told0 ⟨#[]⟩,wy) from by
   unfold doV
   rw [if_neg (by omega)]
   rw [if_neg (by omega)]
   rw [if_neg (by omega)]
   rw [if_neg (by omega)]
   rw [if_pos hk]
   rw [hcv])
  have HCV:=Lib.hid hcv
  rw [HD.out]
  clear hk hcv
  go_wp2_with fail
  generalize (((w.alloc (.cells #[.int .u8 x.kind,.slice A x.path.length c,.slice B x.dest.length d,.string x.data] 42)).alloc (.cells #[.int .u8 0,.int .i64 0,.string ⟨#[]⟩] 46)).alloc (.cells #[.int .u8 0,.int .i64 0,.string ⟨#[]⟩] 46))=W0 at *
  have hc1:=rename_api W0 g O tb f HF0.out hgO hbt htl A c x.path HP0.out hc hpB B d x.dest HQ0.out hd hqB
  rw [show callV f 5 ⟨x.path,x.dest,⟨#[]⟩⟩=(f1,tl,wy) from HCV.out] at hc1
  refine hc1.mono ?_
  clear hc1
  rintro e w1 ⟨rfl,hp1⟩
  have HP1:=Lib.hid (FsPost.mid (w:=w) hp1)
  have hk1:∀ j,w.heap.size≤j→j<W0.heap.size→w1.heap[j]? = W0.heap[j]? := fun j h1 h2=>hp1.2.block j h2 fun h=>by
   rcases h with h | h
   ·omega
   ·have:=htbl j h;omega
  have H11:=Lib.hid ((hk1 (w.heap.size+1) (by omega) (by omega)).trans H1.out)
  have H12:=Lib.hid ((hk1 (w.heap.size+2) (by omega) (by omega)).trans H2.out)
  clear hp1 hk1 l0 l1 l2 l3
  have e0:=cell_of (j:=0) H12.out rfl
  have g0:=unfr H12.out 0
  have n0:=cell_of (j:=0) H11.out rfl
  have m0:=unfr H11.out 0
  have e1:=cell_of (j:=1) H12.out rfl
  have g1:=unfr H12.out 1
  have n1:=cell_of (j:=1) H11.out rfl
  have m1:=unfr H11.out 1
  have e2:=cell_of (j:=2) H12.out rfl
  have g2:=unfr H12.out 2
  have n2:=cell_of (j:=2) H11.out rfl
  have m2:=unfr H11.out 2
  have H22:=H12
  have H21:=H11
  have HM2:=HP1
  go_wp2_with fail
  refine bodyPost_ret (results_ct rfl _ _ (w.heap.size+1) 46 #[.int .u8 0,.int .i64 0,.string ⟨#[]⟩] (0,0) _ rfl (blk_put (blk_put (blk_put H21.out 0 (.int .u8 0) rfl) 1 (.int .i64 0) rfl) 2 (.string ⟨#[]⟩) rfl) Tryz.underlying46 rfl (by kernel_rfl)) rfl ?_
  exact ⟨rfl,FsMid.done (((HM2.out.put (p:=⟨w.heap.size+1,0,none⟩) (by simp only;omega) (by simp only;omega) hgl hlts (.int .u8 0)).put (p:=⟨w.heap.size+1,1,none⟩) (by simp only;omega) (by simp only;omega) hgl hlts (.int .i64 0)).put (p:=⟨w.heap.size+1,2,none⟩) (by simp only;omega) (by simp only;omega) hgl hlts (.string ⟨#[]⟩)) HFS.out HB0.out⟩
 ·skip
  have HD:=Lib.hid (show doV f x=(f,told0 ⟨#[]⟩,0) from by
   unfold doV
   rw [if_neg k1,if_neg k2,if_neg k3,if_neg k4,if_neg k5])
  rw [HD.out]
  have b1:(x.kind == 1)=false:=beq_eq_false_iff_ne.2 k1
  clear k1
  have b2:(x.kind == 2)=false:=beq_eq_false_iff_ne.2 k2
  clear k2
  have b3:(x.kind == 3)=false:=beq_eq_false_iff_ne.2 k3
  clear k3
  have b4:(x.kind == 4)=false:=beq_eq_false_iff_ne.2 k4
  clear k4
  have b5:(x.kind == 5)=false:=beq_eq_false_iff_ne.2 k5
  clear k5
  have e0:=cell_of (j:=0) H2.out rfl
  have n0:=cell_of (j:=0) H1.out rfl
  have m0:=unfr H1.out 0
  have e1:=cell_of (j:=1) H2.out rfl
  have n1:=cell_of (j:=1) H1.out rfl
  have m1:=unfr H1.out 1
  have e2:=cell_of (j:=2) H2.out rfl
  have n2:=cell_of (j:=2) H1.out rfl
  have m2:=unfr H1.out 2
  go_wp2_with fail
  generalize (((w.alloc (.cells #[.int .u8 x.kind,.slice A x.path.length c,.slice B x.dest.length d,.string x.data] 42)).alloc (.cells #[.int .u8 0,.int .i64 0,.string ⟨#[]⟩] 46)).alloc (.cells #[.int .u8 0,.int .i64 0,.string ⟨#[]⟩] 46))=W0 at *
  refine bodyPost_ret (results_ct rfl _ _ (w.heap.size+1) 46 #[.int .u8 0,.int .i64 0,.string ⟨#[]⟩] (0,0) _ rfl H1.out Tryz.underlying46 rfl (by kernel_rfl)) rfl ?_
  exact ⟨rfl,FsMid.done (show FsMid w W0 g O tb f W0 from ⟨⟨tb,.inl rfl,HF0.out.mono (fun k h=>.inl h) (fun k h=>h.elim (fun h=>HF0.out.lts k h) fun h=>h.2)⟩,Only.of_belowV (Below.refl _ _) _⟩) HFS.out HB0.out⟩
def oneOf (x:Step):Bool:=decide (1≤x.kind∧x.kind≤5)
set_option maxHeartbeats 4000000 in
theorem isCall_calls (x:Step) (A B:Option Addr) (c d:Nat) (w:World) :
  Calls Tryz.prog 8 #[.agg #[.int .u8 x.kind,.slice A x.path.length c,.slice B x.dest.length d,.string x.data]] w fun e w'=>e=.returned (.bool (oneOf x))∧Below w.heap.size w w':=by
 have HX:=Lib.hid (blk_new w (.cells #[.int .u8 x.kind,.slice A x.path.length c,.slice B x.dest.length d,.string x.data] 42))
 have HB0:=Lib.hid (below_alloc (Below.refl w.heap.size w) (.cells #[.int .u8 x.kind,.slice A x.path.length c,.slice B x.dest.length d,.string x.data] 42))
 obtain ⟨b,hb⟩:∃ b,oneOf x=b:=⟨_,rfl⟩
 have HO:=Lib.hid hb
 rw [hb]
 clear hb
 go_enter Tryz.func8,Tryz.ntmps8
 have l0:=cell_of (j:=0) HX.out rfl
 by_cases h1:1≤x.kind
 ·by_cases h2:x.kind≤5
  ·obtain rfl:b=true:=by rw [← HO.out];simp [oneOf,h1,h2]
   go_wp2_with fail
   go_ret
   exact ⟨rfl,HB0.out⟩
  ·obtain rfl:b=false:=by rw [← HO.out];simp [oneOf,h1,h2]
   go_wp2_with fail
   go_ret
   exact ⟨rfl,HB0.out⟩
 ·obtain rfl:b=false:=by rw [← HO.out];simp [oneOf,h1]
  go_wp2_with fail
  go_ret
  exact ⟨rfl,HB0.out⟩
theorem results_c1 {P:Program} {fn:Func} {p:Tmp} {ty:TypeId} (h:fn.results=#[.cell p ty]) (tmps:Array Value) (w:World) (g:Nat) (t:TypeId) (cs:Array Value) (fr:Nat×Nat) (d:TypeDesc)
  (hp:tmps.getD p undef=.pointer (some ⟨g,0,none⟩)) (hg:w.heap[g]? = some (.cells cs t fr))
  (hu:P.underlying ty=some d) (hd:(match d with | .struct _ | .array _ _=>true | _=>false)=true) (hi:(P.info? ty).map (·.size)=some cs.size) :
  (results fn tmps).run P w=.ok (.agg cs) w:=by
 have hp':tmps[p]?.getD undef=.pointer (some ⟨g,0,none⟩):=by simpa using hp
 simp [results,h,hp',asAddr,run_loadVar_row w g t ty cs fr d hg hu hd hi]
set_option maxHeartbeats 4000000 in
set_option maxRecDepth 100000 in
theorem tree_api (w:World) (g:Nat) (O:Nat→Prop) (tb:Option Nat) (f:FsV) (hfs:FsAt w g O tb f) (hbt:f.tree.bulk≤1099511627776) :
  Calls Tryz.prog 12 #[.pointer (some ⟨g,0,none⟩)] w fun e w'=>∃ A c,e=.returned (fileV f.tree A c)∧f.tree.files.length≤c∧FileK.R 25 w' w.heap.size (fun _=>True) (.slice A f.tree.files.length c) f.tree.files∧Below w.heap.size w w':=by
 have HFS:=Lib.hid hfs
 obtain ⟨A,c,v,m,lo,hi,hbox,hle,hiv,hsep,htr,htb,hfl,hOm,hOlt⟩:=hfs
 unfold fsCells at hbox
 have HS:=Lib.hid (fun W (h:Below w.heap.size w W)=>hiv W fun k h1 h2=>h.block k (hOlt k (hsep k h1 h2).1))
 have hgl:=blk_lt hbox
 have hb0:=below_alloc (Below.refl w.heap.size w) (.cells zC 25)
 have HBG:=Lib.hid ((hb0.block g hgl).trans hbox)
 have HZ0:=Lib.hid (blk_new w (.cells zC 25))
 have HB0:=Lib.hid hb0
 clear hbox hiv hsep htr htb hfl hOm hOlt
 go_enter Tryz.func12,Tryz.ntmps12
 obtain ⟨l0,l1,l2,l3,l4,l5⟩:=c6A HBG.out
 go_wp2_with fail
 clear l0 l1 l2 l3 l4 l5
 generalize (w.alloc (.cells zC 25))=W0 at *
 have hs0:=HB0.out.size
 have hz0:=blk_lt HZ0.out
 refine (show Calls Tryz.prog 21 #[.agg (fc f.tree A c)] _ _ from copy_file f.tree.bulk f.tree A c W0 (Nat.le_refl _) (by omega) (HS.out _ HB0.out) hle).mono ?_
 rintro e w1 ⟨v2,rfl,hR2,hq1⟩
 have HR2:=Lib.hid hR2
 obtain ⟨A2,c2,rfl,hc2,hC2⟩:=Kd.R_reads hR2
 clear hR2 hC2
 have HZ1:=Lib.hid ((hq1.block _ hz0).trans HZ0.out)
 have hb1:=HB0.out.trans (hq1.mono hs0)
 obtain ⟨z0,z1,z2,z3⟩:=c4A HZ1.out
 obtain ⟨u0,u1,u2,u3⟩:=u4A HZ1.out
 go_wp2_with fail
 have HZ9:=Lib.hid (store4_box HZ1.out (.string f.tree.name) (.int .u8 f.tree.kind) (.string f.tree.data) (.slice A2 f.tree.files.length c2))
 refine bodyPost_ret (results_c1 rfl _ _ w.heap.size 25 (fc f.tree A2 c2) (0,0) _ rfl HZ9.out Tryz.underlying25 rfl (by kernel_rfl)) rfl ?_
 exact ⟨A2,c2,rfl,hc2,Kd.R_mono (Kd.R_lower (Kd.R_step (Kd.R_bound HR2.out) fun k hk _=>store4_other w1 (g:=w.heap.size) (by have:=hk.2.1;omega) (.string f.tree.name) (.int .u8 f.tree.kind) (.string f.tree.data) (.slice A2 f.tree.files.length c2)) hs0) (fun _ _=>trivial),store4_below hb1 (Nat.le_refl _) (.string f.tree.name) (.int .u8 f.tree.kind) (.string f.tree.data) (.slice A2 f.tree.files.length c2)⟩
end Go.Proofs.YthlcjjhfkldmhaaGreatDoor.G
end
section
namespace Go.Proofs.YthlcjjhfkldmhaaGreatDoor.G
open Go.RowKit Go.Lib Go.Proofs.YthlcjjhfkldmhaaGreatDoorW.PrintWords Go.Proofs.YthlcjjhfkldmhaaGreatDoorW.PrintLast
set_option linter.unusedVariables false
set_option linter.unusedSimpArgs false
def reqOf (x:Step):Req:=⟨x.path,if x.kind=5 then x.dest else [],if x.kind=4 then x.data else ⟨#[]⟩⟩
def ansOf (k:Int) (r:Told×Int):Told×Int:=(if k=1 then ⟨r.1.kind,r.1.size,⟨#[]⟩⟩ else if k=2 then told0 r.1.data else told0 ⟨#[]⟩,r.2)
theorem do_call (f:FsV) (x:Step) (hx:oneOf x=true):(doV f x).1=(callV f x.kind (reqOf x)).1∧(doV f x).2=ansOf x.kind (callV f x.kind (reqOf x)).2:=by
 obtain ⟨k,p,q,d⟩:=x
 have hk:k=1∨k=2∨k=3∨k=4∨k=5:=by
  simp only [oneOf,decide_eq_true_iff] at hx
  omega
 rcases hk with rfl | rfl | rfl | rfl | rfl <;> exact ⟨rfl,rfl⟩
theorem reqOf_data (x:Step):(reqOf x).data.size≤x.data.size:=by
 unfold reqOf
 simp only
 split
 ·exact Nat.le_refl _
 ·exact Nat.zero_le _
theorem do_grows (f:FsV) (x:Step) (ht:rightT f.tree=true):rightT (doV f x).1.tree=true∧(doV f x).1.tree.bulk≤f.tree.bulk+x.data.size+259∧(doV f x).1.trace.length≤f.trace.length+1∧(doV f x).1.faults=f.faults:=by
 by_cases hx:oneOf x=true
 ·rw [(do_call f x hx).1]
  obtain ⟨h1,h2,h3,h4⟩:=call_grows f x.kind (reqOf x) ht
  have:=reqOf_data x
  exact ⟨h1,by omega,h3,h4⟩
 ·have h:doV f x=(f,told0 ⟨#[]⟩,0):=by
   simp only [oneOf,decide_eq_true_iff] at hx
   unfold doV
   rw [if_neg (by omega),if_neg (by omega),if_neg (by omega),if_neg (by omega),if_neg (by omega)]
  rw [h]
  exact ⟨ht,by simp only;omega,by simp only;omega,rfl⟩
end Go.Proofs.YthlcjjhfkldmhaaGreatDoor.G
end
section
namespace Go.Proofs.YthlcjjhfkldmhaaGreatDoor.G
open Go.RowKit Go.Lib Go.Proofs.YthlcjjhfkldmhaaGreatDoorW.PrintWords Go.Proofs.YthlcjjhfkldmhaaGreatDoorW.PrintLast
set_option linter.unusedVariables false
set_option linter.unusedSimpArgs false
theorem four_all (w:World) (a b c d:Obj):((((w.alloc a).alloc b).alloc c).alloc d).heap[w.heap.size]? = some a∧((((w.alloc a).alloc b).alloc c).alloc d).heap[w.heap.size+1]? = some b∧((((w.alloc a).alloc b).alloc c).alloc d).heap[w.heap.size+2]? = some c∧((((w.alloc a).alloc b).alloc c).alloc d).heap[w.heap.size+3]? = some d∧Below w.heap.size w ((((w.alloc a).alloc b).alloc c).alloc d):=by
 have s1:(w.alloc a).heap.size=w.heap.size+1:=by simp
 have s2:((w.alloc a).alloc b).heap.size=w.heap.size+2:=by simp
 have s3:(((w.alloc a).alloc b).alloc c).heap.size=w.heap.size+3:=by simp
 refine ⟨?_,?_,?_,?_,(((Below.refl _ _).alloc (Nat.le_refl _) a).alloc (by omega) b).alloc (by omega) c |>.alloc (by omega) d⟩
 ·exact (Below.heap_alloc _ _ _ (by omega)).trans ((Below.heap_alloc _ _ _ (by omega)).trans ((Below.heap_alloc _ _ _ (by omega)).trans (blk_new w a)))
 ·exact (Below.heap_alloc _ _ _ (by omega)).trans ((Below.heap_alloc _ _ _ (by omega)).trans (s1 ▸ blk_new (w.alloc a) b))
 ·exact (Below.heap_alloc _ _ _ (by omega)).trans (s2 ▸ blk_new ((w.alloc a).alloc b) c)
 ·exact s3 ▸ blk_new (((w.alloc a).alloc b).alloc c) d
theorem store4_size (W:World) (g:Nat) (v0 v1 v2 v3:Value):((((W.setCell ⟨g,0,none⟩ v0).setCell ⟨g,1,none⟩ v1).setCell ⟨g,2,none⟩ v2).setCell ⟨g,3,none⟩ v3).heap.size=W.heap.size:=by simp [World.setCell]
theorem store7 {W:World} {g a:Nat} {c0 c1 c2 c3 d0 d1 d2:Value} {F T:TypeId} (hg:W.heap[g]? = some (.cells #[c0,c1,c2,c3] F (0,0))) (ha:W.heap[a]? = some (.cells #[d0,d1,d2] T (0,0))) (hne:g≠a) (v0 v1 v2 v3 u0 u1 u2:Value) :
  (((((((W.setCell ⟨g,0,none⟩ v0).setCell ⟨g,1,none⟩ v1).setCell ⟨g,2,none⟩ v2).setCell ⟨g,3,none⟩ v3).setCell ⟨a,0,none⟩ u0).setCell ⟨a,1,none⟩ u1).setCell ⟨a,2,none⟩ u2).heap[g]? = some (.cells #[v0,v1,v2,v3] F (0,0)) ∧
  (((((((W.setCell ⟨g,0,none⟩ v0).setCell ⟨g,1,none⟩ v1).setCell ⟨g,2,none⟩ v2).setCell ⟨g,3,none⟩ v3).setCell ⟨a,0,none⟩ u0).setCell ⟨a,1,none⟩ u1).setCell ⟨a,2,none⟩ u2).heap[a]? = some (.cells #[u0,u1,u2] T (0,0)) ∧
  Only (fun k=>k=g∨k=a) W (((((((W.setCell ⟨g,0,none⟩ v0).setCell ⟨g,1,none⟩ v1).setCell ⟨g,2,none⟩ v2).setCell ⟨g,3,none⟩ v3).setCell ⟨a,0,none⟩ u0).setCell ⟨a,1,none⟩ u1).setCell ⟨a,2,none⟩ u2):=by
 have h4:=store4_box hg v0 v1 v2 v3
 have ha4:=(store4_other W (g:=g) (Ne.symm hne) v0 v1 v2 v3).trans ha
 refine ⟨?_,?_,?_⟩
 ·exact (Below.heap_setCell _ _ _ _ (by simpa using hne)).trans ((Below.heap_setCell _ _ _ _ (by simpa using hne)).trans ((Below.heap_setCell _ _ _ _ (by simpa using hne)).trans h4))
 ·have b0:=blk_put ha4 0 u0 rfl
  have b1:=blk_put b0 1 u1 rfl
  have b2:=blk_put b1 2 u2 rfl
  simpa using b2
 ·have st:∀ {X:World} (b i:Nat) (u:Value),(b=g∨b=a)→Only (fun k=>k=g∨k=a) W X→Only (fun k=>k=g∨k=a) W (X.setCell ⟨b,i,none⟩ u):=fun b i u hb h=>h.trans (Only.setCell _ _ _) (fun _ _ h=>h) (fun k _ e=>by have e':k=b:=e;rw [e'];exact hb)
  exact st a 2 u2 (.inr rfl) (st a 1 u1 (.inr rfl) (st a 0 u0 (.inr rfl) (st g 3 v3 (.inl rfl) (st g 2 v2 (.inl rfl) (st g 1 v1 (.inl rfl) (st g 0 v0 (.inl rfl) (Only.refl _ _)))))))
theorem results_cct {P:Program} {fn:Func} {p q u:Tmp} {ty tz:TypeId} (h:fn.results=#[.cell p ty,.cell q tz,.tmp u]) (tmps:Array Value) (w:World) (g a:Nat) (t t':TypeId) (cs ds:Array Value) (fr fr':Nat×Nat) (d d':TypeDesc)
  (hp:tmps.getD p undef=.pointer (some ⟨g,0,none⟩)) (hg:w.heap[g]? = some (.cells cs t fr)) (hu:P.underlying ty=some d) (hd:(match d with | .struct _ | .array _ _=>true | _=>false)=true) (hi:(P.info? ty).map (·.size)=some cs.size)
  (hq:tmps.getD q undef=.pointer (some ⟨a,0,none⟩)) (ha:w.heap[a]? = some (.cells ds t' fr')) (hu':P.underlying tz=some d') (hd':(match d' with | .struct _ | .array _ _=>true | _=>false)=true) (hi':(P.info? tz).map (·.size)=some ds.size) :
  (results fn tmps).run P w=.ok (.tuple #[.agg cs,.agg ds,tmps.getD u undef]) w:=by
 have hp':tmps[p]?.getD undef=.pointer (some ⟨g,0,none⟩):=by simpa using hp
 have hq':tmps[q]?.getD undef=.pointer (some ⟨a,0,none⟩):=by simpa using hq
 simp [results,h,hp',hq',asAddr,run_loadVar_row w g t ty cs fr d hg hu hd hi,run_loadVar_row w a t' tz ds fr' d' ha hu' hd' hi']
set_option maxHeartbeats 4000000 in
set_option maxRecDepth 100000 in
theorem has_calls (A:Option Addr) (c:Nat) (l:List Int) (n:Int) (w:World) (hr:Kd.C (Kd.int .i64) w A l.length l) (hc:l.length≤c) (hl:l.length≤1099511627776) :
  Calls Tryz.prog 30 #[.slice A l.length c,.int .i64 n] w fun e w'=>e=.returned (.bool (decide (n∈l)))∧w'=w:=by
 have HR:=Lib.hid hr
 clear hr
 obtain ⟨R,hR⟩:∃ R,decide (n∈l)=R:=⟨_,rfl⟩
 have HRR:=Lib.hid hR
 rw [hR]
 clear hR
 go_enter Tryz.func30,Tryz.ntmps30
 go_wp2_with fail
 go_loop [5] (fun i=>∃ k:Nat,k≤l.length∧i=.int .i64 k∧Hid (∀ x∈l.take k,x≠n)) (fun i=>l.length - (RowKit.intOf i).toNat)
 case atStart=>exact ⟨0,by omega,rfl,Lib.hid (by simp)⟩
 case round =>
  obtain ⟨k,hk,rfl,HN⟩:=hrel
  by_cases q:k<l.length
  ·obtain ⟨ad,rfl,hx⟩:=Kd.at_int HR.out (k:Int) (by omega) (by omega)
   rw [Int.toNat_natCast] at hx
   have hrd:rd l (k:Int)=l[k]:=by simp [rd,q]
   rw [hrd] at hx
   have HT:=Lib.hid (List.take_succ_eq_append_getElem q)
   have HM:=Lib.hid (List.getElem_mem q)
   clear hrd
   generalize l[k]=z at *
   have g1:(k:Int)<(l.length:Int):=by omega
   by_cases hz:z=n
   ·subst hz
    have hb:(z == z)=true:=by simp
    go_wp2_with fail
    go_ret
    exact ⟨by rw [← HRR.out,decide_eq_true HM.out];rfl,rfl⟩
   ·have hb:(z == n)=false:=beq_eq_false_iff_ne.2 hz
    go_wp2_with fail
    go_round
    case rel=>exact ⟨k+1,by omega,by go_num,Lib.hid (by rw [HT.out];intro y hy;rcases List.mem_append.1 hy with h | h;(· exact HN.out y h);(· rw [List.mem_singleton.1 h];exact hz))⟩
    case measure=>simp [RowKit.intOf];omega
  ·obtain rfl:k=l.length:=by omega
   go_wp2_with fail
   go_ret
   have h:=HN.out
   rw [List.take_length] at h
   exact ⟨by rw [← HRR.out,decide_eq_false (fun hm=>h n hm rfl)];rfl,rfl⟩
set_option maxHeartbeats 4000000 in
set_option maxRecDepth 100000 in
theorem there_calls (t:File) (A:Option Addr) (c:Nat) (Ap:Option Addr) (cp:Nat) (p:List ByteArray) (w:World) (ht:FileK.C w A t.files.length t.files) (hc:t.files.length≤c) (hbt:t.bulk≤1000000000) (hp:Kd.C Kd.string w Ap p.length p) (hcp:p.length≤cp) (hpl:p.length≤1000000000) :
  Calls Tryz.prog 50 #[fileV t A c,.slice Ap p.length cp] w fun e w'=>∃ A' c',e=.returned (.tuple #[.agg #[.string (getR t p).1.name,.int .u8 (getR t p).1.kind,.string (getR t p).1.data,.slice A' (getR t p).1.files.length c'],.bool ((getR t p).2 == 0)])∧(getR t p).1.files.length≤c'∧(∀ W':World,(∀ k,w.heap.size≤k→k<w'.heap.size→W'.heap[k]? = w'.heap[k]?)→FileK.C W' A' (getR t p).1.files.length (getR t p).1.files)∧Below w.heap.size w w':=by
 have h2:=two_boxes w (fc t A c) zC 25 25
 have hb0:=((Below.refl w.heap.size w).alloc (Nat.le_refl _) (.cells (fc t A c) 25)).alloc (by simp) (.cells zC 25)
 have I:=Lib.hid (Hd.base hb0 (by first | exact Nat.le_refl _ | exact Below.size hb0))
 replace I:=Lib.hid (Hd.and I.out (Hd.box (h2.1)))
 replace I:=Lib.hid (Hd.and I.out (Hd.box (h2.2)))
 replace I:=Lib.hid (Hd.and I.out (Hd.reads (Kd.C_below ht hb0)))
 replace I:=Lib.hid (Hd.and I.out (Hd.reads (Kd.C_below hp hb0)))
 obtain ⟨g,hgg⟩:∃ g,getR t p=g:=⟨_,rfl⟩
 rw [hgg]
 have HGG:=Lib.hid hgg
 clear hgg h2 ht hp
 go_enter Tryz.func50,Tryz.ntmps50
 unfold fileV
 obtain ⟨lt0,lt1,lt2,lt3⟩:=c4A I.out.now.2.2.2.1
 go_wp2_with fail
 clear lt0 lt1 lt2 lt3
 generalize ((w.alloc (.cells (fc t A c) 25)).alloc (.cells zC 25))=W0 at *
 have hrl:=blk_lt I.out.now.2.2.1
 refine (rgetS t A c Ap cp p _ I.out.now.2.1 hc hbt I.out.now.1 hcp hpl).mono ?_
 rintro e w1 ⟨⟨A5,c5,rfl,hc5,hC5⟩,hq1⟩
 replace I:=Lib.hid (Hd.mv I.out hq1)
 rw [HGG.out] at hc5 hC5 ⊢
 have HC5:=Lib.hid hC5
 clear hC5
 have hs1:=hq1.size
 have ha2:=below_alloc (Below.refl w1.heap.size w1) (.cells (fc g.1 A5 c5) 25)
 replace I:=Lib.hid (Hd.mv I.out ha2)
 replace I:=Lib.hid (Hd.and I.out (Hd.box (blk_new w1 (.cells (fc g.1 A5 c5) 25))))
 obtain ⟨W5,hWW5⟩:∃ W,(w1.alloc (.cells (fc g.1 A5 c5) 25))=W:=⟨_,rfl⟩
 rw [hWW5] at I
 have hW5s:w1.heap.size<W5.heap.size:=by rw [← hWW5];simp
 rw [hWW5] at ha2
 obtain ⟨lf0,lf1,lf2,lf3⟩:=c4A I.out.now.1
 have HZ:=I.out.now.2.2.2.1
 have HZF:=Lib.hid (store4_box HZ (.string g.1.name) (.int .u8 g.1.kind) (.string g.1.data) (.slice A5 g.1.files.length c5))
 have HB9:=Lib.hid (store4_below I.out.now.2.2.2.2.2 (g:=w.heap.size+1) (by omega) (.string g.1.name) (.int .u8 g.1.kind) (.string g.1.data) (.slice A5 g.1.files.length c5))
 have HV:Hid (∀ W':World,(∀ k,w.heap.size≤k→k<((((W5.setCell ⟨w.heap.size+1,0,none⟩ (.string g.1.name)).setCell ⟨w.heap.size+1,1,none⟩ (.int .u8 g.1.kind)).setCell ⟨w.heap.size+1,2,none⟩ (.string g.1.data)).setCell ⟨w.heap.size+1,3,none⟩ (.slice A5 g.1.files.length c5)).heap.size→W'.heap[k]? = ((((W5.setCell ⟨w.heap.size+1,0,none⟩ (.string g.1.name)).setCell ⟨w.heap.size+1,1,none⟩ (.int .u8 g.1.kind)).setCell ⟨w.heap.size+1,2,none⟩ (.string g.1.data)).setCell ⟨w.heap.size+1,3,none⟩ (.slice A5 g.1.files.length c5)).heap[k]?)→FileK.C W' A5 g.1.files.length g.1.files):=Lib.hid fun W' hW'=>HC5.out W' fun k h1 h2=>(hW' k (by omega) (by rw [store4_size];omega)).trans ((store4_other W5 (g:=w.heap.size+1) (by omega) _ _ _ _).trans (ha2.block k h2))
 obtain ⟨z0,z1,z2,z3⟩:=c4A HZ
 obtain ⟨u0,u1,u2,u3⟩:=u4A HZ
 go_wp2_with fail
 refine bodyPost_ret (results_ct rfl _ _ (w.heap.size+1) 25 (fc g.1 A5 c5) (0,0) _ rfl HZF.out Tryz.underlying25 rfl (by kernel_rfl)) rfl ?_
 exact ⟨A5,c5,rfl,hc5,HV.out,HB9.out⟩
def rdo1 (t:File) (p q:List ByteArray) (d:ByteArray):File×Told×Int :=
 if (walkR t p false).2.2.2=0 then (if (getR t (walkR t p false).1).2=0 then (t,⟨(getR t (walkR t p false).1).1.kind,(getR t (walkR t p false).1).1.data.size,⟨#[]⟩⟩,0) else (t,told0 ⟨#[]⟩,31)) else (t,told0 ⟨#[]⟩,(walkR t p false).2.2.2)
def rdo2 (t:File) (p q:List ByteArray) (d:ByteArray):File×Told×Int :=
 if (walkR t p true).2.2.2=0 then (if (getR t (walkR t p true).1).2=0 then (if (getR t (walkR t p true).1).1.kind=1 then (t,told0 ⟨#[]⟩,40) else (t,told0 (getR t (walkR t p true).1).1.data,0)) else (t,told0 ⟨#[]⟩,31)) else (t,told0 ⟨#[]⟩,(walkR t p true).2.2.2)
def rdo3 (t:File) (p q:List ByteArray) (d:ByteArray):File×Told×Int :=
 if (walkR t p true).2.2.2=0 then (if (getR t (walkR t p true).1).2=0∧(getR t (walkR t p true).1).1.kind=1 then (t,told0 ⟨#[]⟩,40) else ((putA t (walkR t p true).1 (textF ⟨#[]⟩)).1,told0 ⟨#[]⟩,0)) else (t,told0 ⟨#[]⟩,(walkR t p true).2.2.2)
def rdo4 (t:File) (p q:List ByteArray) (d:ByteArray):File×Told×Int :=
 if (walkR t p true).2.2.2=0 then (if (getR t (walkR t p true).1).2=0 then (if (getR t (walkR t p true).1).1.kind=1 then (t,told0 ⟨#[]⟩,40) else ((putA t (walkR t p true).1 (textF ((getR t (walkR t p true).1).1.data++d))).1,told0 ⟨#[]⟩,0)) else (t,told0 ⟨#[]⟩,31)) else (t,told0 ⟨#[]⟩,(walkR t p true).2.2.2)
def rdo5 (t:File) (p q:List ByteArray) (d:ByteArray):File×Told×Int :=
 if (walkR t p false).2.2.2=0 then (if (getR t (walkR t p false).1).2=0 then (if (getR t (walkR t p false).1).1.kind=1 then (t,told0 ⟨#[]⟩,40) else
  (if (walkR t q false).2.2.2=0 then (if (getR t (walkR t q false).1).2=0∧(getR t (walkR t q false).1).1.kind=1 then (t,told0 ⟨#[]⟩,40) else
   (if P.sameB (walkR t p false).1 (walkR t q false).1=true then (t,told0 ⟨#[]⟩,0) else ((putA (dropA t (walkR t p false).1).1 (walkR t q false).1 (getR t (walkR t p false).1).1).1,told0 ⟨#[]⟩,0)))
  else (t,told0 ⟨#[]⟩,(walkR t q false).2.2.2))) else (t,told0 ⟨#[]⟩,31)) else (t,told0 ⟨#[]⟩,(walkR t p false).2.2.2)
def bmD (n m:Nat):Array Bool:=((List.range n).map (fun j=>m.testBit j)).toArray
set_option maxHeartbeats 8000000 in
set_option maxRecDepth 100000 in
theorem rdo1_calls (t:File) (A:Option Addr) (c:Nat) (p q:List ByteArray) (d:ByteArray) (A1 B1:Option Addr) (c1 d1:Nat) (w:World) (ht:FileK.C w A t.files.length t.files) (hc:t.files.length≤c) (hbt:t.bulk≤100000000) (hr:rightT t=true) (hp:Kd.C Kd.string w A1 p.length p) (hc1:p.length≤c1) (hps:P.sumP p≤100000000) (hpn:∀ n∈(walkR t p false).1,n.size≤100000000) (hq:Kd.C Kd.string w B1 q.length q) (hd1:q.length≤d1) (hqs:P.sumP q≤100000000) (hqn:∀ n∈(walkR t q false).1,n.size≤100000000) (hxd:d.size≤100000000) :
  Calls Tryz.prog 31 #[fileV t A c,.agg #[.int .u8 1,.slice A1 p.length c1,.slice B1 q.length d1,.string d]] w fun e w'=>∃ A' c',e=.returned (.tuple #[.agg #[.string (rdo1 t p q d).1.name,.int .u8 (rdo1 t p q d).1.kind,.string (rdo1 t p q d).1.data,.slice A' (rdo1 t p q d).1.files.length c'],.agg #[.int .u8 (rdo1 t p q d).2.1.kind,.int .i64 (rdo1 t p q d).2.1.size,.string (rdo1 t p q d).2.1.data],.int .i64 (rdo1 t p q d).2.2])∧(rdo1 t p q d).1.files.length≤c'∧(∀ W':World,FileK.C W' A t.files.length t.files→(∀ k,w.heap.size≤k→k<w'.heap.size→W'.heap[k]? = w'.heap[k]?)→FileK.C W' A' (rdo1 t p q d).1.files.length (rdo1 t p q d).1.files)∧Below w.heap.size w w':=by
 have h4:=four_all w (.cells (fc t A c) 25) (.cells #[.int .u8 1,.slice A1 p.length c1,.slice B1 q.length d1,.string d] 42) (.cells zC 25) (.cells #[.int .u8 0,.int .i64 0,.string ⟨#[]⟩] 46)
 have I:=Lib.hid (Hd.base h4.2.2.2.2 (by first | exact Nat.le_refl _ | exact Below.size h4.2.2.2.2))
 replace I:=Lib.hid (Hd.and I.out (Hd.box (h4.1)))
 replace I:=Lib.hid (Hd.and I.out (Hd.box (h4.2.1)))
 replace I:=Lib.hid (Hd.and I.out (Hd.box (h4.2.2.1)))
 replace I:=Lib.hid (Hd.and I.out (Hd.box (h4.2.2.2.1)))
 replace I:=Lib.hid (Hd.and I.out (Hd.reads (Kd.C_below ht h4.2.2.2.2)))
 replace I:=Lib.hid (Hd.and I.out (Hd.reads (Kd.C_below hp h4.2.2.2.2)))
 replace I:=Lib.hid (Hd.and I.out (Hd.reads (Kd.C_below hq h4.2.2.2.2)))
 have hs4:w.heap.size+3<((((w.alloc (.cells (fc t A c) 25)).alloc (.cells #[.int .u8 1,.slice A1 p.length c1,.slice B1 q.length d1,.string d] 42)).alloc (.cells zC 25)).alloc (.cells #[.int .u8 0,.int .i64 0,.string ⟨#[]⟩] 46)).heap.size:=blk_lt h4.2.2.2.1
 have HSO:=Lib.hid (right_sort hr)
 have HT0:=Lib.hid (fun W (h:Below w.heap.size w W)=>Kd.C_below ht h)
 obtain ⟨res,hres⟩:∃ r,rdo1 t p q d=r:=⟨_,rfl⟩
 rw [hres]
 unfold rdo1 at hres
 have hpl:=P.sumP_len p
 have hql:=P.sumP_len q
 have hws:=walk_sum t p false
 obtain ⟨⟨q1,h1,i1,k1⟩,hw1⟩:∃ r,walkR t p false=r:=⟨_,rfl⟩
 have HW1:=Lib.hid hw1
 rw [hw1] at hres hws
 simp only at hres hws
 have hq1l:=P.sumP_len q1
 have HR:=Lib.hid hres
 clear hres ht hp hq h4 hr hw1
 go_enter Tryz.func31,Tryz.ntmps31
 unfold fileV
 obtain ⟨lt0,lt1,lt2,lt3⟩:=c4A I.out.now.2.2.2.2.2.2.1
 obtain ⟨lx0,lx1,lx2,lx3⟩:=c4A I.out.now.2.2.2.2.2.1
 go_wp2_with fail
 clear lt0 lt1 lt2 lt3
 clear lx0 lx1 lx2 lx3
 generalize ((((w.alloc (.cells (fc t A c) 25)).alloc (.cells #[.int .u8 1,.slice A1 p.length c1,.slice B1 q.length d1,.string d] 42)).alloc (.cells zC 25)).alloc (.cells #[.int .u8 0,.int .i64 0,.string ⟨#[]⟩] 46))=W0 at *
 refine ((show Calls Tryz.prog 49 #[.agg (fc t A c),.slice A1 p.length c1,.bool false] _ _ from rreal_calls t A c A1 c1 p false _ I.out.now.2.2.1 hc (by omega) HSO.out I.out.now.2.1 hc1 (by omega) (by omega))).mono ?_
 rintro e w1 ⟨B2,d2,rfl,hd2,hC2,hq1⟩
 replace I:=Lib.hid (Hd.mv I.out hq1)
 rw [HW1.out] at hd2 hC2 ⊢
 simp only at hd2 hC2 ⊢
 replace I:=Lib.hid (Hd.and I.out (Hd.reads (hC2)))
 clear hC2
 by_cases hk1:k1=0
 rotate_left
 ·skip
  have hkb:(k1 != 0)=true:=by rw [bne_iff_ne];exact hk1
  have HE:=Lib.hid (show (t,told0 ⟨#[]⟩,k1)=res from by have h:=HR.out;rw [if_neg hk1] at h;exact h)
  have HZ:w1.heap[w.heap.size+2]? = some (.cells zC 25 (0,0)):=I.out.now.2.2.2.2.2.1
  have HA:w1.heap[w.heap.size+3]? = some (.cells #[.int .u8 0,.int .i64 0,.string ⟨#[]⟩] 46 (0,0)):=I.out.now.2.2.2.2.1
  have HST:=Lib.hid (store7 HZ HA (by omega) (.string t.name) (.int .u8 t.kind) (.string t.data) (.slice A t.files.length c) (.int .u8 0) (.int .i64 0) (.string ⟨#[]⟩))
  have HBV:=Lib.hid (I.out.now.2.2.2.2.2.2.2.2.trans (HST.out.2.2.below (B:=w.heap.size) (by have:=Below.size I.out.now.2.2.2.2.2.2.2.2;omega) (fun k hk e=>by omega)))
  obtain ⟨z0,z1,z2,z3⟩:=c4A HZ
  obtain ⟨u0,u1,u2,u3⟩:=u4A HZ
  obtain ⟨y0,y1,y2⟩:=c3A HA
  obtain ⟨n0,n1,n2⟩:=u3A HA
  obtain ⟨lt0,lt1,lt2,lt3⟩:=c4A I.out.now.2.2.2.2.2.2.2.1
  go_wp2_with fail
  refine bodyPost_ret (results_cct rfl _ _ (w.heap.size+2) (w.heap.size+3) 25 46 (fc t A c) #[.int .u8 0,.int .i64 0,.string ⟨#[]⟩] (0,0) (0,0) _ _ rfl HST.out.1 Tryz.underlying25 rfl (by kernel_rfl) rfl HST.out.2.1 Tryz.underlying46 rfl (by kernel_rfl)) rfl ?_
  rw [← HE.out]
  exact ⟨A,c,rfl,hc,(fun _ h9 _=>h9),HBV.out⟩
 subst hk1
 have HR1:=HR.out
 rw [if_pos rfl] at HR1
 obtain ⟨⟨g,gk⟩,hg⟩:∃ g,getR t q1=g:=⟨_,rfl⟩
 have HG:=Lib.hid hg
 have hgb:=get_bulk t q1
 rw [hg] at HR1 hgb
 simp only at HR1 hgb
 have HR1:=Lib.hid HR1
 clear hg
 obtain ⟨lt0,lt1,lt2,lt3⟩:=c4A I.out.now.2.2.2.2.2.2.2.1
 go_wp2_with fail
 clear lt0 lt1 lt2 lt3
 refine ((show Calls Tryz.prog 50 #[.agg (fc t A c),.slice B2 q1.length d2] _ _ from there_calls t A c B2 d2 q1 _ I.out.now.2.2.2.1 hc (by omega) I.out.now.1 hd2 (by omega))).mono ?_
 rintro e w2 ⟨A5,c5,rfl,hc5,hC5,hq2⟩
 replace I:=Lib.hid (Hd.mv I.out hq2)
 rw [HG.out] at hc5 hC5 ⊢
 simp only at hc5 hC5 ⊢
 replace I:=Lib.hid (Hd.and I.out (Hd.reads (hC5 _ fun _ _ _=>rfl)))
 clear hC5
 have ha3:=below_alloc (Below.refl w2.heap.size w2) (.cells (fc g A5 c5) 25)
 replace I:=Lib.hid (Hd.mv I.out ha3)
 replace I:=Lib.hid (Hd.and I.out (Hd.box (blk_new w2 (.cells (fc g A5 c5) 25))))
 obtain ⟨W5,hWW5⟩:∃ W,(w2.alloc (.cells (fc g A5 c5) 25))=W:=⟨_,rfl⟩
 rw [hWW5] at I
 have hW5s:w2.heap.size<W5.heap.size:=by rw [← hWW5];simp
 by_cases hgk:gk=0
 rotate_left
 ·skip
  have hgb1:(gk == 0)=false:=beq_eq_false_iff_ne.2 hgk
  have HE:=Lib.hid (show (t,told0 ⟨#[]⟩,31)=res from by have h:=HR1.out;rw [if_neg hgk] at h;exact h)
  obtain ⟨lx0,lx1,lx2,lx3⟩:=c4A I.out.now.2.2.2.2.2.2.2.2.1
  have HZ:W5.heap[w.heap.size+2]? = some (.cells zC 25 (0,0)):=I.out.now.2.2.2.2.2.2.2.1
  have HA:W5.heap[w.heap.size+3]? = some (.cells #[.int .u8 0,.int .i64 0,.string ⟨#[]⟩] 46 (0,0)):=I.out.now.2.2.2.2.2.2.1
  have HST:=Lib.hid (store7 HZ HA (by omega) (.string t.name) (.int .u8 t.kind) (.string t.data) (.slice A t.files.length c) (.int .u8 0) (.int .i64 0) (.string ⟨#[]⟩))
  have HBV:=Lib.hid (I.out.now.2.2.2.2.2.2.2.2.2.2.trans (HST.out.2.2.below (B:=w.heap.size) (by have:=Below.size I.out.now.2.2.2.2.2.2.2.2.2.2;omega) (fun k hk e=>by omega)))
  obtain ⟨z0,z1,z2,z3⟩:=c4A HZ
  obtain ⟨u0,u1,u2,u3⟩:=u4A HZ
  obtain ⟨y0,y1,y2⟩:=c3A HA
  obtain ⟨n0,n1,n2⟩:=u3A HA
  obtain ⟨lt0,lt1,lt2,lt3⟩:=c4A I.out.now.2.2.2.2.2.2.2.2.2.1
  go_wp2_with fail
  refine bodyPost_ret (results_cct rfl _ _ (w.heap.size+2) (w.heap.size+3) 25 46 (fc t A c) #[.int .u8 0,.int .i64 0,.string ⟨#[]⟩] (0,0) (0,0) _ _ rfl HST.out.1 Tryz.underlying25 rfl (by kernel_rfl) rfl HST.out.2.1 Tryz.underlying46 rfl (by kernel_rfl)) rfl ?_
  rw [← HE.out]
  exact ⟨A,c,rfl,hc,(fun _ h9 _=>h9),HBV.out⟩
 subst hgk
 have hgb1:((0:Int) == 0)=true:=rfl
 have HR2:=HR1.out
 rw [if_pos rfl] at HR2
 replace HR2:=Lib.hid HR2
 have HE:=Lib.hid (show (t,(⟨g.kind,g.data.size,⟨#[]⟩⟩:Told),(0:Int))=res from HR2.out)
 obtain ⟨lx0,lx1,lx2,lx3⟩:=c4A I.out.now.2.2.2.2.2.2.2.2.1
 obtain ⟨lf0,lf1,lf2,lf3⟩:=c4A I.out.now.1
 obtain ⟨db,hdb⟩:∃ b,(g.kind == 1)=b:=⟨_,rfl⟩
 cases db
 all_goals
  go_wp2_with fail
  replace I:=Lib.hid (Hd.mv I.out (bdrew (Below.refl W5.heap.size W5)))
  have hfl:w.heap.size+3<w2.heap.size:=by have:=hq1.size;have:=hq2.size;omega
  have HZ:W5.drew.heap[w.heap.size+1+1]? = some (.cells zC 25 (0,0)):=I.out.now.2.2.2.2.2.2.2.1
  have HA:W5.drew.heap[w.heap.size+1+1+1]? = some (.cells #[.int .u8 0,.int .i64 0,.string ⟨#[]⟩] 46 (0,0)):=I.out.now.2.2.2.2.2.2.1
  have HST:=Lib.hid (store7 HZ HA (by omega) (.string t.name) (.int .u8 t.kind) (.string t.data) (.slice A t.files.length c) (.int .u8 g.kind) (.int .i64 g.data.size) (.string ⟨#[]⟩))
  have HBV:=Lib.hid (I.out.now.2.2.2.2.2.2.2.2.2.2.trans (HST.out.2.2.below (B:=w.heap.size) (by have:=Below.size I.out.now.2.2.2.2.2.2.2.2.2.2;omega) (fun k hk e=>by omega)))
  obtain ⟨z0,z1,z2,z3⟩:=c4A HZ
  obtain ⟨u0,u1,u2,u3⟩:=u4A HZ
  obtain ⟨y0,y1,y2⟩:=c3A HA
  obtain ⟨n0,n1,n2⟩:=u3A HA
  refine start_ (n:=11) (S:=fun w'=>w'.heap[w.heap.size]? = some (.cells (fc t A c) 25 (0,0))∧w'.heap[w2.heap.size]? = some (.cells (fc g A5 c5) 25 (0,0))) (ds:=[9]) (bmD 11 0) (by kernel_rfl) rfl rfl ⟨I.out.now.2.2.2.2.2.2.2.2.2.1,I.out.now.1⟩ (fun hHeld => ?_)
  generalize W5.drew=Wd at *
  refine pA 1 81 (bmD 11 2) ?_
  refine pA 3 83 (bmD 11 10) ?_
  refine tA 0 80 (bmD 11 11) hHeld ?_ (hy:=by
   rintro w' ⟨s0,s1⟩
   have q0:=cell_of (j:=0) s0 rfl
   have q1:=cell_of (j:=1) s0 rfl
   have q2:=cell_of (j:=2) s0 rfl
   have q3:=cell_of (j:=3) s0 rfl
   go_simp
   with_reducible rfl)
  refine tA 2 82 (bmD 11 15) hHeld ?_ (hy:=by
   rintro w' ⟨s0,s1⟩
   have q0:=cell_of (j:=0) s1 rfl
   have q1:=cell_of (j:=1) s1 rfl
   have q2:=cell_of (j:=2) s1 rfl
   have q3:=cell_of (j:=3) s1 rfl
   go_simp
   with_reducible rfl)
  refine tA 4 84 (bmD 11 31) hHeld ?_ (hy:=by
   rintro w' ⟨s0,s1⟩
   have q0:=cell_of (j:=0) s1 rfl
   have q1:=cell_of (j:=1) s1 rfl
   have q2:=cell_of (j:=2) s1 rfl
   have q3:=cell_of (j:=3) s1 rfl
   go_simp
   with_reducible rfl)
  refine pA 5 85 (bmD 11 63) ?_
  refine pA 6 86 (bmD 11 127) ?_
  refine pA 7 87 (bmD 11 255) ?_
  refine one_ (i:=8) (N:=none) (bmD 11 511) rfl rfl (by kernel_rfl) (by decide) (fun K hK => ?_)
  refine sA ?_
  refine hK.out _ _ ⟨(store4_other _ (g:=w.heap.size+1+1) (by omega) _ _ _ _).trans hHeld.1,(store4_other _ (g:=w.heap.size+1+1) (by omega) _ _ _ _).trans hHeld.2⟩ (fun hHeld => ?_)
  refine last_ (i:=9) (N:=none) (bmD 11 1023) rfl rfl (by kernel_rfl) (by decide) (fun K hK => ?_)
  refine sA ?_
  refine hK.out _ _ ?_
  refine pA 10 6 (bmD 11 2047) ?_
  refine done_ (by kernel_rfl) ?_
  go_wp2_with fail
  refine bodyPost_ret (results_cct rfl _ _ (w.heap.size+1+1) (w.heap.size+1+1+1) 25 46 (fc t A c) #[.int .u8 g.kind,.int .i64 g.data.size,.string ⟨#[]⟩] (0,0) (0,0) _ _ rfl HST.out.1 Tryz.underlying25 rfl (by kernel_rfl) rfl HST.out.2.1 Tryz.underlying46 rfl (by kernel_rfl)) rfl ?_
  rw [← HE.out]
  exact ⟨A,c,rfl,hc,(fun _ h9 _=>h9),HBV.out⟩
set_option maxHeartbeats 8000000 in
set_option maxRecDepth 100000 in
theorem rdo2_calls (t:File) (A:Option Addr) (c:Nat) (p q:List ByteArray) (d:ByteArray) (A1 B1:Option Addr) (c1 d1:Nat) (w:World) (ht:FileK.C w A t.files.length t.files) (hc:t.files.length≤c) (hbt:t.bulk≤100000000) (hr:rightT t=true) (hp:Kd.C Kd.string w A1 p.length p) (hc1:p.length≤c1) (hps:P.sumP p≤100000000) (hpn:∀ n∈(walkR t p true).1,n.size≤100000000) (hq:Kd.C Kd.string w B1 q.length q) (hd1:q.length≤d1) (hqs:P.sumP q≤100000000) (hqn:∀ n∈(walkR t q false).1,n.size≤100000000) (hxd:d.size≤100000000) :
  Calls Tryz.prog 31 #[fileV t A c,.agg #[.int .u8 2,.slice A1 p.length c1,.slice B1 q.length d1,.string d]] w fun e w'=>∃ A' c',e=.returned (.tuple #[.agg #[.string (rdo2 t p q d).1.name,.int .u8 (rdo2 t p q d).1.kind,.string (rdo2 t p q d).1.data,.slice A' (rdo2 t p q d).1.files.length c'],.agg #[.int .u8 (rdo2 t p q d).2.1.kind,.int .i64 (rdo2 t p q d).2.1.size,.string (rdo2 t p q d).2.1.data],.int .i64 (rdo2 t p q d).2.2])∧(rdo2 t p q d).1.files.length≤c'∧(∀ W':World,FileK.C W' A t.files.length t.files→(∀ k,w.heap.size≤k→k<w'.heap.size→W'.heap[k]? = w'.heap[k]?)→FileK.C W' A' (rdo2 t p q d).1.files.length (rdo2 t p q d).1.files)∧Below w.heap.size w w':=by
 have h4:=four_all w (.cells (fc t A c) 25) (.cells #[.int .u8 2,.slice A1 p.length c1,.slice B1 q.length d1,.string d] 42) (.cells zC 25) (.cells #[.int .u8 0,.int .i64 0,.string ⟨#[]⟩] 46)
 have I:=Lib.hid (Hd.base h4.2.2.2.2 (by first | exact Nat.le_refl _ | exact Below.size h4.2.2.2.2))
 replace I:=Lib.hid (Hd.and I.out (Hd.box (h4.1)))
 replace I:=Lib.hid (Hd.and I.out (Hd.box (h4.2.1)))
 replace I:=Lib.hid (Hd.and I.out (Hd.box (h4.2.2.1)))
 replace I:=Lib.hid (Hd.and I.out (Hd.box (h4.2.2.2.1)))
 replace I:=Lib.hid (Hd.and I.out (Hd.reads (Kd.C_below ht h4.2.2.2.2)))
 replace I:=Lib.hid (Hd.and I.out (Hd.reads (Kd.C_below hp h4.2.2.2.2)))
 replace I:=Lib.hid (Hd.and I.out (Hd.reads (Kd.C_below hq h4.2.2.2.2)))
 have hs4:w.heap.size+3<((((w.alloc (.cells (fc t A c) 25)).alloc (.cells #[.int .u8 2,.slice A1 p.length c1,.slice B1 q.length d1,.string d] 42)).alloc (.cells zC 25)).alloc (.cells #[.int .u8 0,.int .i64 0,.string ⟨#[]⟩] 46)).heap.size:=blk_lt h4.2.2.2.1
 have HSO:=Lib.hid (right_sort hr)
 have HT0:=Lib.hid (fun W (h:Below w.heap.size w W)=>Kd.C_below ht h)
 obtain ⟨res,hres⟩:∃ r,rdo2 t p q d=r:=⟨_,rfl⟩
 rw [hres]
 unfold rdo2 at hres
 have hpl:=P.sumP_len p
 have hql:=P.sumP_len q
 have hws:=walk_sum t p true
 obtain ⟨⟨q1,h1,i1,k1⟩,hw1⟩:∃ r,walkR t p true=r:=⟨_,rfl⟩
 have HW1:=Lib.hid hw1
 rw [hw1] at hres hws
 simp only at hres hws
 have hq1l:=P.sumP_len q1
 have HR:=Lib.hid hres
 clear hres ht hp hq h4 hr hw1
 go_enter Tryz.func31,Tryz.ntmps31
 unfold fileV
 obtain ⟨lt0,lt1,lt2,lt3⟩:=c4A I.out.now.2.2.2.2.2.2.1
 obtain ⟨lx0,lx1,lx2,lx3⟩:=c4A I.out.now.2.2.2.2.2.1
 go_wp2_with fail
 clear lt0 lt1 lt2 lt3
 clear lx0 lx1 lx2 lx3
 generalize ((((w.alloc (.cells (fc t A c) 25)).alloc (.cells #[.int .u8 2,.slice A1 p.length c1,.slice B1 q.length d1,.string d] 42)).alloc (.cells zC 25)).alloc (.cells #[.int .u8 0,.int .i64 0,.string ⟨#[]⟩] 46))=W0 at *
 refine ((show Calls Tryz.prog 49 #[.agg (fc t A c),.slice A1 p.length c1,.bool true] _ _ from rreal_calls t A c A1 c1 p true _ I.out.now.2.2.1 hc (by omega) HSO.out I.out.now.2.1 hc1 (by omega) (by omega))).mono ?_
 rintro e w1 ⟨B2,d2,rfl,hd2,hC2,hq1⟩
 replace I:=Lib.hid (Hd.mv I.out hq1)
 rw [HW1.out] at hd2 hC2 ⊢
 simp only at hd2 hC2 ⊢
 replace I:=Lib.hid (Hd.and I.out (Hd.reads (hC2)))
 clear hC2
 by_cases hk1:k1=0
 rotate_left
 ·skip
  have hkb:(k1 != 0)=true:=by rw [bne_iff_ne];exact hk1
  have HE:=Lib.hid (show (t,told0 ⟨#[]⟩,k1)=res from by have h:=HR.out;rw [if_neg hk1] at h;exact h)
  have HZ:w1.heap[w.heap.size+2]? = some (.cells zC 25 (0,0)):=I.out.now.2.2.2.2.2.1
  have HA:w1.heap[w.heap.size+3]? = some (.cells #[.int .u8 0,.int .i64 0,.string ⟨#[]⟩] 46 (0,0)):=I.out.now.2.2.2.2.1
  have HST:=Lib.hid (store7 HZ HA (by omega) (.string t.name) (.int .u8 t.kind) (.string t.data) (.slice A t.files.length c) (.int .u8 0) (.int .i64 0) (.string ⟨#[]⟩))
  have HBV:=Lib.hid (I.out.now.2.2.2.2.2.2.2.2.trans (HST.out.2.2.below (B:=w.heap.size) (by have:=Below.size I.out.now.2.2.2.2.2.2.2.2;omega) (fun k hk e=>by omega)))
  obtain ⟨z0,z1,z2,z3⟩:=c4A HZ
  obtain ⟨u0,u1,u2,u3⟩:=u4A HZ
  obtain ⟨y0,y1,y2⟩:=c3A HA
  obtain ⟨n0,n1,n2⟩:=u3A HA
  obtain ⟨lt0,lt1,lt2,lt3⟩:=c4A I.out.now.2.2.2.2.2.2.2.1
  go_wp2_with fail
  refine bodyPost_ret (results_cct rfl _ _ (w.heap.size+2) (w.heap.size+3) 25 46 (fc t A c) #[.int .u8 0,.int .i64 0,.string ⟨#[]⟩] (0,0) (0,0) _ _ rfl HST.out.1 Tryz.underlying25 rfl (by kernel_rfl) rfl HST.out.2.1 Tryz.underlying46 rfl (by kernel_rfl)) rfl ?_
  rw [← HE.out]
  exact ⟨A,c,rfl,hc,(fun _ h9 _=>h9),HBV.out⟩
 subst hk1
 have HR1:=HR.out
 rw [if_pos rfl] at HR1
 obtain ⟨⟨g,gk⟩,hg⟩:∃ g,getR t q1=g:=⟨_,rfl⟩
 have HG:=Lib.hid hg
 have hgb:=get_bulk t q1
 rw [hg] at HR1 hgb
 simp only at HR1 hgb
 have HR1:=Lib.hid HR1
 clear hg
 obtain ⟨lt0,lt1,lt2,lt3⟩:=c4A I.out.now.2.2.2.2.2.2.2.1
 go_wp2_with fail
 clear lt0 lt1 lt2 lt3
 refine ((show Calls Tryz.prog 50 #[.agg (fc t A c),.slice B2 q1.length d2] _ _ from there_calls t A c B2 d2 q1 _ I.out.now.2.2.2.1 hc (by omega) I.out.now.1 hd2 (by omega))).mono ?_
 rintro e w2 ⟨A5,c5,rfl,hc5,hC5,hq2⟩
 replace I:=Lib.hid (Hd.mv I.out hq2)
 rw [HG.out] at hc5 hC5 ⊢
 simp only at hc5 hC5 ⊢
 replace I:=Lib.hid (Hd.and I.out (Hd.reads (hC5 _ fun _ _ _=>rfl)))
 clear hC5
 have ha3:=below_alloc (Below.refl w2.heap.size w2) (.cells (fc g A5 c5) 25)
 replace I:=Lib.hid (Hd.mv I.out ha3)
 replace I:=Lib.hid (Hd.and I.out (Hd.box (blk_new w2 (.cells (fc g A5 c5) 25))))
 obtain ⟨W5,hWW5⟩:∃ W,(w2.alloc (.cells (fc g A5 c5) 25))=W:=⟨_,rfl⟩
 rw [hWW5] at I
 have hW5s:w2.heap.size<W5.heap.size:=by rw [← hWW5];simp
 by_cases hgk:gk=0
 rotate_left
 ·skip
  have hgb1:(gk == 0)=false:=beq_eq_false_iff_ne.2 hgk
  have HE:=Lib.hid (show (t,told0 ⟨#[]⟩,31)=res from by have h:=HR1.out;rw [if_neg hgk] at h;exact h)
  obtain ⟨lx0,lx1,lx2,lx3⟩:=c4A I.out.now.2.2.2.2.2.2.2.2.1
  have HZ:W5.heap[w.heap.size+2]? = some (.cells zC 25 (0,0)):=I.out.now.2.2.2.2.2.2.2.1
  have HA:W5.heap[w.heap.size+3]? = some (.cells #[.int .u8 0,.int .i64 0,.string ⟨#[]⟩] 46 (0,0)):=I.out.now.2.2.2.2.2.2.1
  have HST:=Lib.hid (store7 HZ HA (by omega) (.string t.name) (.int .u8 t.kind) (.string t.data) (.slice A t.files.length c) (.int .u8 0) (.int .i64 0) (.string ⟨#[]⟩))
  have HBV:=Lib.hid (I.out.now.2.2.2.2.2.2.2.2.2.2.trans (HST.out.2.2.below (B:=w.heap.size) (by have:=Below.size I.out.now.2.2.2.2.2.2.2.2.2.2;omega) (fun k hk e=>by omega)))
  obtain ⟨z0,z1,z2,z3⟩:=c4A HZ
  obtain ⟨u0,u1,u2,u3⟩:=u4A HZ
  obtain ⟨y0,y1,y2⟩:=c3A HA
  obtain ⟨n0,n1,n2⟩:=u3A HA
  obtain ⟨lt0,lt1,lt2,lt3⟩:=c4A I.out.now.2.2.2.2.2.2.2.2.2.1
  go_wp2_with fail
  refine bodyPost_ret (results_cct rfl _ _ (w.heap.size+2) (w.heap.size+3) 25 46 (fc t A c) #[.int .u8 0,.int .i64 0,.string ⟨#[]⟩] (0,0) (0,0) _ _ rfl HST.out.1 Tryz.underlying25 rfl (by kernel_rfl) rfl HST.out.2.1 Tryz.underlying46 rfl (by kernel_rfl)) rfl ?_
  rw [← HE.out]
  exact ⟨A,c,rfl,hc,(fun _ h9 _=>h9),HBV.out⟩
 subst hgk
 have hgb1:((0:Int) == 0)=true:=rfl
 have HR2:=HR1.out
 rw [if_pos rfl] at HR2
 replace HR2:=Lib.hid HR2
 by_cases hdk:g.kind=1
 ·skip
  have hdb:(g.kind == 1)=true:=by rw [hdk];rfl
  have HE:=Lib.hid (show (t,told0 ⟨#[]⟩,40)=res from by have h:=HR2.out;rw [if_pos hdk] at h;exact h)
  clear hdk
  obtain ⟨lx0,lx1,lx2,lx3⟩:=c4A I.out.now.2.2.2.2.2.2.2.2.1
  obtain ⟨lf0,lf1,lf2,lf3⟩:=c4A I.out.now.1
  have HZ:W5.heap[w.heap.size+2]? = some (.cells zC 25 (0,0)):=I.out.now.2.2.2.2.2.2.2.1
  have HA:W5.heap[w.heap.size+3]? = some (.cells #[.int .u8 0,.int .i64 0,.string ⟨#[]⟩] 46 (0,0)):=I.out.now.2.2.2.2.2.2.1
  have HST:=Lib.hid (store7 HZ HA (by omega) (.string t.name) (.int .u8 t.kind) (.string t.data) (.slice A t.files.length c) (.int .u8 0) (.int .i64 0) (.string ⟨#[]⟩))
  have HBV:=Lib.hid (I.out.now.2.2.2.2.2.2.2.2.2.2.trans (HST.out.2.2.below (B:=w.heap.size) (by have:=Below.size I.out.now.2.2.2.2.2.2.2.2.2.2;omega) (fun k hk e=>by omega)))
  obtain ⟨z0,z1,z2,z3⟩:=c4A HZ
  obtain ⟨u0,u1,u2,u3⟩:=u4A HZ
  obtain ⟨y0,y1,y2⟩:=c3A HA
  obtain ⟨n0,n1,n2⟩:=u3A HA
  obtain ⟨lt0,lt1,lt2,lt3⟩:=c4A I.out.now.2.2.2.2.2.2.2.2.2.1
  go_wp2_with fail
  refine bodyPost_ret (results_cct rfl _ _ (w.heap.size+2) (w.heap.size+3) 25 46 (fc t A c) #[.int .u8 0,.int .i64 0,.string ⟨#[]⟩] (0,0) (0,0) _ _ rfl HST.out.1 Tryz.underlying25 rfl (by kernel_rfl) rfl HST.out.2.1 Tryz.underlying46 rfl (by kernel_rfl)) rfl ?_
  rw [← HE.out]
  exact ⟨A,c,rfl,hc,(fun _ h9 _=>h9),HBV.out⟩
 have hdb:(g.kind == 1)=false:=beq_eq_false_iff_ne.2 hdk
 have HE:=Lib.hid (show (t,told0 g.data,(0:Int))=res from by have h:=HR2.out;rw [if_neg hdk] at h;exact h)
 clear hdk
 obtain ⟨lx0,lx1,lx2,lx3⟩:=c4A I.out.now.2.2.2.2.2.2.2.2.1
 obtain ⟨lf0,lf1,lf2,lf3⟩:=c4A I.out.now.1
 all_goals
  go_wp2_with fail
  replace I:=Lib.hid (Hd.mv I.out (bdrew (Below.refl W5.heap.size W5)))
  have hfl:w.heap.size+3<w2.heap.size:=by have:=hq1.size;have:=hq2.size;omega
  have HZ:W5.drew.heap[w.heap.size+1+1]? = some (.cells zC 25 (0,0)):=I.out.now.2.2.2.2.2.2.2.1
  have HA:W5.drew.heap[w.heap.size+1+1+1]? = some (.cells #[.int .u8 0,.int .i64 0,.string ⟨#[]⟩] 46 (0,0)):=I.out.now.2.2.2.2.2.2.1
  have HST:=Lib.hid (store7 HZ HA (by omega) (.string t.name) (.int .u8 t.kind) (.string t.data) (.slice A t.files.length c) (.int .u8 0) (.int .i64 0) (.string g.data))
  have HBV:=Lib.hid (I.out.now.2.2.2.2.2.2.2.2.2.2.trans (HST.out.2.2.below (B:=w.heap.size) (by have:=Below.size I.out.now.2.2.2.2.2.2.2.2.2.2;omega) (fun k hk e=>by omega)))
  obtain ⟨z0,z1,z2,z3⟩:=c4A HZ
  obtain ⟨u0,u1,u2,u3⟩:=u4A HZ
  obtain ⟨y0,y1,y2⟩:=c3A HA
  obtain ⟨n0,n1,n2⟩:=u3A HA
  refine start_ (n:=7) (S:=fun w'=>w'.heap[w.heap.size]? = some (.cells (fc t A c) 25 (0,0))∧w'.heap[w2.heap.size]? = some (.cells (fc g A5 c5) 25 (0,0))) (ds:=[5]) (bmD 7 0) (by kernel_rfl) rfl rfl ⟨I.out.now.2.2.2.2.2.2.2.2.2.1,I.out.now.1⟩ (fun hHeld => ?_)
  generalize W5.drew=Wd at *
  refine pA 1 91 (bmD 7 2) ?_
  refine tA 0 90 (bmD 7 3) hHeld ?_ (hy:=by
   rintro w' ⟨s0,s1⟩
   have q0:=cell_of (j:=0) s0 rfl
   have q1:=cell_of (j:=1) s0 rfl
   have q2:=cell_of (j:=2) s0 rfl
   have q3:=cell_of (j:=3) s0 rfl
   go_simp
   with_reducible rfl)
  refine tA 2 92 (bmD 7 7) hHeld ?_ (hy:=by
   rintro w' ⟨s0,s1⟩
   have q0:=cell_of (j:=0) s1 rfl
   have q1:=cell_of (j:=1) s1 rfl
   have q2:=cell_of (j:=2) s1 rfl
   have q3:=cell_of (j:=3) s1 rfl
   go_simp
   with_reducible rfl)
  refine pA 3 93 (bmD 7 15) ?_
  refine one_ (i:=4) (N:=none) (bmD 7 31) rfl rfl (by kernel_rfl) (by decide) (fun K hK => ?_)
  refine sA ?_
  refine hK.out _ _ ⟨(store4_other _ (g:=w.heap.size+1+1) (by omega) _ _ _ _).trans hHeld.1,(store4_other _ (g:=w.heap.size+1+1) (by omega) _ _ _ _).trans hHeld.2⟩ (fun hHeld => ?_)
  refine last_ (i:=5) (N:=none) (bmD 7 63) rfl rfl (by kernel_rfl) (by decide) (fun K hK => ?_)
  refine sA ?_
  refine hK.out _ _ ?_
  refine pA 6 6 (bmD 7 127) ?_
  refine done_ (by kernel_rfl) ?_
  go_wp2_with fail
  refine bodyPost_ret (results_cct rfl _ _ (w.heap.size+1+1) (w.heap.size+1+1+1) 25 46 (fc t A c) #[.int .u8 0,.int .i64 0,.string g.data] (0,0) (0,0) _ _ rfl HST.out.1 Tryz.underlying25 rfl (by kernel_rfl) rfl HST.out.2.1 Tryz.underlying46 rfl (by kernel_rfl)) rfl ?_
  rw [← HE.out]
  exact ⟨A,c,rfl,hc,(fun _ h9 _=>h9),HBV.out⟩
set_option maxHeartbeats 8000000 in
set_option maxRecDepth 100000 in
theorem rdo3_calls (t:File) (A:Option Addr) (c:Nat) (p q:List ByteArray) (d:ByteArray) (A1 B1:Option Addr) (c1 d1:Nat) (w:World) (ht:FileK.C w A t.files.length t.files) (hc:t.files.length≤c) (hbt:t.bulk≤100000000) (hr:rightT t=true) (hp:Kd.C Kd.string w A1 p.length p) (hc1:p.length≤c1) (hps:P.sumP p≤100000000) (hpn:∀ n∈(walkR t p true).1,n.size≤100000000) (hq:Kd.C Kd.string w B1 q.length q) (hd1:q.length≤d1) (hqs:P.sumP q≤100000000) (hqn:∀ n∈(walkR t q false).1,n.size≤100000000) (hxd:d.size≤100000000) :
  Calls Tryz.prog 31 #[fileV t A c,.agg #[.int .u8 3,.slice A1 p.length c1,.slice B1 q.length d1,.string d]] w fun e w'=>∃ A' c',e=.returned (.tuple #[.agg #[.string (rdo3 t p q d).1.name,.int .u8 (rdo3 t p q d).1.kind,.string (rdo3 t p q d).1.data,.slice A' (rdo3 t p q d).1.files.length c'],.agg #[.int .u8 (rdo3 t p q d).2.1.kind,.int .i64 (rdo3 t p q d).2.1.size,.string (rdo3 t p q d).2.1.data],.int .i64 (rdo3 t p q d).2.2])∧(rdo3 t p q d).1.files.length≤c'∧(∀ W':World,FileK.C W' A t.files.length t.files→(∀ k,w.heap.size≤k→k<w'.heap.size→W'.heap[k]? = w'.heap[k]?)→FileK.C W' A' (rdo3 t p q d).1.files.length (rdo3 t p q d).1.files)∧Below w.heap.size w w':=by
 have h4:=four_all w (.cells (fc t A c) 25) (.cells #[.int .u8 3,.slice A1 p.length c1,.slice B1 q.length d1,.string d] 42) (.cells zC 25) (.cells #[.int .u8 0,.int .i64 0,.string ⟨#[]⟩] 46)
 have I:=Lib.hid (Hd.base h4.2.2.2.2 (by first | exact Nat.le_refl _ | exact Below.size h4.2.2.2.2))
 replace I:=Lib.hid (Hd.and I.out (Hd.box (h4.1)))
 replace I:=Lib.hid (Hd.and I.out (Hd.box (h4.2.1)))
 replace I:=Lib.hid (Hd.and I.out (Hd.box (h4.2.2.1)))
 replace I:=Lib.hid (Hd.and I.out (Hd.box (h4.2.2.2.1)))
 replace I:=Lib.hid (Hd.and I.out (Hd.reads (Kd.C_below ht h4.2.2.2.2)))
 replace I:=Lib.hid (Hd.and I.out (Hd.reads (Kd.C_below hp h4.2.2.2.2)))
 replace I:=Lib.hid (Hd.and I.out (Hd.reads (Kd.C_below hq h4.2.2.2.2)))
 have hs4:w.heap.size+3<((((w.alloc (.cells (fc t A c) 25)).alloc (.cells #[.int .u8 3,.slice A1 p.length c1,.slice B1 q.length d1,.string d] 42)).alloc (.cells zC 25)).alloc (.cells #[.int .u8 0,.int .i64 0,.string ⟨#[]⟩] 46)).heap.size:=blk_lt h4.2.2.2.1
 have HSO:=Lib.hid (right_sort hr)
 have HT0:=Lib.hid (fun W (h:Below w.heap.size w W)=>Kd.C_below ht h)
 obtain ⟨res,hres⟩:∃ r,rdo3 t p q d=r:=⟨_,rfl⟩
 rw [hres]
 unfold rdo3 at hres
 have hpl:=P.sumP_len p
 have hql:=P.sumP_len q
 have hws:=walk_sum t p true
 obtain ⟨⟨q1,h1,i1,k1⟩,hw1⟩:∃ r,walkR t p true=r:=⟨_,rfl⟩
 have HW1:=Lib.hid hw1
 rw [hw1] at hres hws
 simp only at hres hws
 have hq1l:=P.sumP_len q1
 have HR:=Lib.hid hres
 clear hres ht hp hq h4 hr hw1
 go_enter Tryz.func31,Tryz.ntmps31
 unfold fileV
 obtain ⟨lt0,lt1,lt2,lt3⟩:=c4A I.out.now.2.2.2.2.2.2.1
 obtain ⟨lx0,lx1,lx2,lx3⟩:=c4A I.out.now.2.2.2.2.2.1
 go_wp2_with fail
 clear lt0 lt1 lt2 lt3
 clear lx0 lx1 lx2 lx3
 generalize ((((w.alloc (.cells (fc t A c) 25)).alloc (.cells #[.int .u8 3,.slice A1 p.length c1,.slice B1 q.length d1,.string d] 42)).alloc (.cells zC 25)).alloc (.cells #[.int .u8 0,.int .i64 0,.string ⟨#[]⟩] 46))=W0 at *
 refine ((show Calls Tryz.prog 49 #[.agg (fc t A c),.slice A1 p.length c1,.bool true] _ _ from rreal_calls t A c A1 c1 p true _ I.out.now.2.2.1 hc (by omega) HSO.out I.out.now.2.1 hc1 (by omega) (by omega))).mono ?_
 rintro e w1 ⟨B2,d2,rfl,hd2,hC2,hq1⟩
 replace I:=Lib.hid (Hd.mv I.out hq1)
 rw [HW1.out] at hd2 hC2 ⊢
 simp only at hd2 hC2 ⊢
 replace I:=Lib.hid (Hd.and I.out (Hd.reads (hC2)))
 clear hC2
 by_cases hk1:k1=0
 rotate_left
 ·skip
  have hkb:(k1 != 0)=true:=by rw [bne_iff_ne];exact hk1
  have HE:=Lib.hid (show (t,told0 ⟨#[]⟩,k1)=res from by have h:=HR.out;rw [if_neg hk1] at h;exact h)
  have HZ:w1.heap[w.heap.size+2]? = some (.cells zC 25 (0,0)):=I.out.now.2.2.2.2.2.1
  have HA:w1.heap[w.heap.size+3]? = some (.cells #[.int .u8 0,.int .i64 0,.string ⟨#[]⟩] 46 (0,0)):=I.out.now.2.2.2.2.1
  have HST:=Lib.hid (store7 HZ HA (by omega) (.string t.name) (.int .u8 t.kind) (.string t.data) (.slice A t.files.length c) (.int .u8 0) (.int .i64 0) (.string ⟨#[]⟩))
  have HBV:=Lib.hid (I.out.now.2.2.2.2.2.2.2.2.trans (HST.out.2.2.below (B:=w.heap.size) (by have:=Below.size I.out.now.2.2.2.2.2.2.2.2;omega) (fun k hk e=>by omega)))
  obtain ⟨z0,z1,z2,z3⟩:=c4A HZ
  obtain ⟨u0,u1,u2,u3⟩:=u4A HZ
  obtain ⟨y0,y1,y2⟩:=c3A HA
  obtain ⟨n0,n1,n2⟩:=u3A HA
  obtain ⟨lt0,lt1,lt2,lt3⟩:=c4A I.out.now.2.2.2.2.2.2.2.1
  go_wp2_with fail
  refine bodyPost_ret (results_cct rfl _ _ (w.heap.size+2) (w.heap.size+3) 25 46 (fc t A c) #[.int .u8 0,.int .i64 0,.string ⟨#[]⟩] (0,0) (0,0) _ _ rfl HST.out.1 Tryz.underlying25 rfl (by kernel_rfl) rfl HST.out.2.1 Tryz.underlying46 rfl (by kernel_rfl)) rfl ?_
  rw [← HE.out]
  exact ⟨A,c,rfl,hc,(fun _ h9 _=>h9),HBV.out⟩
 subst hk1
 have HR1:=HR.out
 rw [if_pos rfl] at HR1
 obtain ⟨⟨g,gk⟩,hg⟩:∃ g,getR t q1=g:=⟨_,rfl⟩
 have HG:=Lib.hid hg
 have hgb:=get_bulk t q1
 rw [hg] at HR1 hgb
 simp only at HR1 hgb
 have HR1:=Lib.hid HR1
 clear hg
 obtain ⟨lt0,lt1,lt2,lt3⟩:=c4A I.out.now.2.2.2.2.2.2.2.1
 go_wp2_with fail
 clear lt0 lt1 lt2 lt3
 refine ((show Calls Tryz.prog 50 #[.agg (fc t A c),.slice B2 q1.length d2] _ _ from there_calls t A c B2 d2 q1 _ I.out.now.2.2.2.1 hc (by omega) I.out.now.1 hd2 (by omega))).mono ?_
 rintro e w2 ⟨A5,c5,rfl,hc5,hC5,hq2⟩
 replace I:=Lib.hid (Hd.mv I.out hq2)
 rw [HG.out] at hc5 hC5 ⊢
 simp only at hc5 hC5 ⊢
 replace I:=Lib.hid (Hd.and I.out (Hd.reads (hC5 _ fun _ _ _=>rfl)))
 clear hC5
 have ha3:=below_alloc (Below.refl w2.heap.size w2) (.cells (fc g A5 c5) 25)
 replace I:=Lib.hid (Hd.mv I.out ha3)
 replace I:=Lib.hid (Hd.and I.out (Hd.box (blk_new w2 (.cells (fc g A5 c5) 25))))
 obtain ⟨W5,hWW5⟩:∃ W,(w2.alloc (.cells (fc g A5 c5) 25))=W:=⟨_,rfl⟩
 rw [hWW5] at I
 have hW5s:w2.heap.size<W5.heap.size:=by rw [← hWW5];simp
 by_cases hgk:gk=0
 rotate_left
 ·skip
  have hgb1:(gk == 0)=false:=beq_eq_false_iff_ne.2 hgk
  have HE0:=Lib.hid (show ((putA t q1 (textF ⟨#[]⟩)).1,told0 ⟨#[]⟩,(0:Int))=res from by have h:=HR1.out;rw [if_neg (fun h=>hgk h.1)] at h;exact h)
  have hfb:(textF ⟨#[]⟩).bulk≤1000000000:=by
   have h1:=bulk_eq (textF ⟨#[]⟩)
   have h2:bulkL (textF ⟨#[]⟩).files=0:=rfl
   have h3:(textF ⟨#[]⟩).name.size=0:=rfl
   have h4:(textF ⟨#[]⟩).data=⟨#[]⟩:=rfl
   have h5:=bulk_eq g
   rw [h4,show (⟨#[]⟩:ByteArray).size=0 from rfl] at h1
   omega
  have hnm:∀ n∈q1,n.size≤1000000000:=fun n hn=>by have:=hpn n (by rw [HW1.out];exact hn);omega
  obtain ⟨lt0,lt1,lt2,lt3⟩:=c4A I.out.now.2.2.2.2.2.2.2.2.2.1
  obtain ⟨lx0,lx1,lx2,lx3⟩:=c4A I.out.now.2.2.2.2.2.2.2.2.1
  obtain ⟨lf0,lf1,lf2,lf3⟩:=c4A I.out.now.1
  go_wp2_with fail
  clear lt0 lt1 lt2 lt3
  clear lx0 lx1 lx2 lx3
  clear lf0 lf1 lf2 lf3
  refine ((show Calls Tryz.prog 51 #[.agg (fc t A c),.slice B2 q1.length d2,.agg #[.string ⟨#[]⟩,.int .u8 2,.string ⟨#[]⟩,.slice none 0 0]] _ _ from rputS t (textF ⟨#[]⟩) A none c 0 B2 d2 q1 _ I.out.now.2.2.2.2.2.1 hc (by omega) I.out.now.2.2.1 hd2 (by omega) (Kd.C_nil FileK _) (Nat.le_refl _) hfb hnm)).mono ?_
  rintro e w4 ⟨⟨A6,c6,rfl,hc6,hC6⟩,hq4⟩
  replace I:=Lib.hid (Hd.mv I.out hq4)
  obtain ⟨⟨u,uk⟩,hu⟩:∃ r,putA t q1 (textF ⟨#[]⟩)=r:=⟨_,rfl⟩
  have HE1:=HE0.out
  rw [hu] at hc6 hC6 HE1 ⊢
  simp only at hc6 hC6 HE1 ⊢
  have HE:=Lib.hid HE1
  have HU:=Lib.hid hC6
  have hsz4:=hq4.size
  clear hu hC6 HE1
  have ha5:=below_alloc (Below.refl w4.heap.size w4) (.cells (fc u A6 c6) 25)
  replace I:=Lib.hid (Hd.mv I.out ha5)
  replace I:=Lib.hid (Hd.and I.out (Hd.box (blk_new w4 (.cells (fc u A6 c6) 25))))
  obtain ⟨W7,hWW7⟩:∃ W,(w4.alloc (.cells (fc u A6 c6) 25))=W:=⟨_,rfl⟩
  rw [hWW7] at I
  have hW7s:w4.heap.size<W7.heap.size:=by rw [← hWW7];simp
  rw [hWW7] at ha5
  have HA7:=Lib.hid ha5
  have hlo:w.heap.size+3<W5.heap.size:=by have:=Below.size hq1;have:=Below.size hq2;have:=hW5s;omega
  obtain ⟨lu0,lu1,lu2,lu3⟩:=c4A I.out.now.1
  have HZ:W7.heap[w.heap.size+2]? = some (.cells zC 25 (0,0)):=I.out.now.2.2.2.2.2.2.2.2.1
  have HA:W7.heap[w.heap.size+3]? = some (.cells #[.int .u8 0,.int .i64 0,.string ⟨#[]⟩] 46 (0,0)):=I.out.now.2.2.2.2.2.2.2.1
  have HST:=Lib.hid (store7 HZ HA (by omega) (.string u.name) (.int .u8 u.kind) (.string u.data) (.slice A6 u.files.length c6) (.int .u8 0) (.int .i64 0) (.string ⟨#[]⟩))
  have HBV:=Lib.hid (I.out.now.2.2.2.2.2.2.2.2.2.2.2.trans (HST.out.2.2.below (B:=w.heap.size) (by have:=Below.size I.out.now.2.2.2.2.2.2.2.2.2.2.2;omega) (fun k hk e=>by omega)))
  obtain ⟨z0,z1,z2,z3⟩:=c4A HZ
  obtain ⟨u0,u1,u2,u3⟩:=u4A HZ
  obtain ⟨y0,y1,y2⟩:=c3A HA
  obtain ⟨n0,n1,n2⟩:=u3A HA
  go_wp2_with fail
  refine bodyPost_ret (results_cct rfl _ _ (w.heap.size+2) (w.heap.size+3) 25 46 (fc u A6 c6) #[.int .u8 0,.int .i64 0,.string ⟨#[]⟩] (0,0) (0,0) _ _ rfl HST.out.1 Tryz.underlying25 rfl (by kernel_rfl) rfl HST.out.2.1 Tryz.underlying46 rfl (by kernel_rfl)) rfl ?_
  rw [← HE.out]
  exact ⟨A6,c6,rfl,hc6,(fun W9 _ h9=>HU.out W9 fun k h1 h2=>(h9 k (by omega) (Nat.lt_of_lt_of_le (show k<W7.heap.size by omega) HST.out.2.2.size)).trans ((HST.out.2.2.block k (by omega) (by omega)).trans (HA7.out.block k h2))),HBV.out⟩
 subst hgk
 have hgb1:((0:Int) == 0)=true:=rfl
 by_cases hdk:g.kind=1
 ·skip
  have hdb:(g.kind == 1)=true:=by rw [hdk];rfl
  have HE:=Lib.hid (show (t,told0 ⟨#[]⟩,40)=res from by have h:=HR1.out;rw [if_pos ⟨rfl,hdk⟩] at h;exact h)
  clear hdk
  obtain ⟨lx0,lx1,lx2,lx3⟩:=c4A I.out.now.2.2.2.2.2.2.2.2.1
  obtain ⟨lf0,lf1,lf2,lf3⟩:=c4A I.out.now.1
  have HZ:W5.heap[w.heap.size+2]? = some (.cells zC 25 (0,0)):=I.out.now.2.2.2.2.2.2.2.1
  have HA:W5.heap[w.heap.size+3]? = some (.cells #[.int .u8 0,.int .i64 0,.string ⟨#[]⟩] 46 (0,0)):=I.out.now.2.2.2.2.2.2.1
  have HST:=Lib.hid (store7 HZ HA (by omega) (.string t.name) (.int .u8 t.kind) (.string t.data) (.slice A t.files.length c) (.int .u8 0) (.int .i64 0) (.string ⟨#[]⟩))
  have HBV:=Lib.hid (I.out.now.2.2.2.2.2.2.2.2.2.2.trans (HST.out.2.2.below (B:=w.heap.size) (by have:=Below.size I.out.now.2.2.2.2.2.2.2.2.2.2;omega) (fun k hk e=>by omega)))
  obtain ⟨z0,z1,z2,z3⟩:=c4A HZ
  obtain ⟨u0,u1,u2,u3⟩:=u4A HZ
  obtain ⟨y0,y1,y2⟩:=c3A HA
  obtain ⟨n0,n1,n2⟩:=u3A HA
  obtain ⟨lt0,lt1,lt2,lt3⟩:=c4A I.out.now.2.2.2.2.2.2.2.2.2.1
  go_wp2_with fail
  refine bodyPost_ret (results_cct rfl _ _ (w.heap.size+2) (w.heap.size+3) 25 46 (fc t A c) #[.int .u8 0,.int .i64 0,.string ⟨#[]⟩] (0,0) (0,0) _ _ rfl HST.out.1 Tryz.underlying25 rfl (by kernel_rfl) rfl HST.out.2.1 Tryz.underlying46 rfl (by kernel_rfl)) rfl ?_
  rw [← HE.out]
  exact ⟨A,c,rfl,hc,(fun _ h9 _=>h9),HBV.out⟩
 have hdb:(g.kind == 1)=false:=beq_eq_false_iff_ne.2 hdk
 have HE0:=Lib.hid (show ((putA t q1 (textF ⟨#[]⟩)).1,told0 ⟨#[]⟩,(0:Int))=res from by have h:=HR1.out;rw [if_neg (fun h=>hdk h.2)] at h;exact h)
 clear hdk
 have hfb:(textF ⟨#[]⟩).bulk≤1000000000:=by
  have h1:=bulk_eq (textF ⟨#[]⟩)
  have h2:bulkL (textF ⟨#[]⟩).files=0:=rfl
  have h3:(textF ⟨#[]⟩).name.size=0:=rfl
  have h4:(textF ⟨#[]⟩).data=⟨#[]⟩:=rfl
  have h5:=bulk_eq g
  rw [h4,show (⟨#[]⟩:ByteArray).size=0 from rfl] at h1
  omega
 have hnm:∀ n∈q1,n.size≤1000000000:=fun n hn=>by have:=hpn n (by rw [HW1.out];exact hn);omega
 obtain ⟨lt0,lt1,lt2,lt3⟩:=c4A I.out.now.2.2.2.2.2.2.2.2.2.1
 obtain ⟨lx0,lx1,lx2,lx3⟩:=c4A I.out.now.2.2.2.2.2.2.2.2.1
 obtain ⟨lf0,lf1,lf2,lf3⟩:=c4A I.out.now.1
 go_wp2_with fail
 clear lt0 lt1 lt2 lt3
 clear lx0 lx1 lx2 lx3
 clear lf0 lf1 lf2 lf3
 refine ((show Calls Tryz.prog 51 #[.agg (fc t A c),.slice B2 q1.length d2,.agg #[.string ⟨#[]⟩,.int .u8 2,.string ⟨#[]⟩,.slice none 0 0]] _ _ from rputS t (textF ⟨#[]⟩) A none c 0 B2 d2 q1 _ I.out.now.2.2.2.2.2.1 hc (by omega) I.out.now.2.2.1 hd2 (by omega) (Kd.C_nil FileK _) (Nat.le_refl _) hfb hnm)).mono ?_
 rintro e w4 ⟨⟨A6,c6,rfl,hc6,hC6⟩,hq4⟩
 replace I:=Lib.hid (Hd.mv I.out hq4)
 obtain ⟨⟨u,uk⟩,hu⟩:∃ r,putA t q1 (textF ⟨#[]⟩)=r:=⟨_,rfl⟩
 have HE1:=HE0.out
 rw [hu] at hc6 hC6 HE1 ⊢
 simp only at hc6 hC6 HE1 ⊢
 have HE:=Lib.hid HE1
 have HU:=Lib.hid hC6
 have hsz4:=hq4.size
 clear hu hC6 HE1
 have ha5:=below_alloc (Below.refl w4.heap.size w4) (.cells (fc u A6 c6) 25)
 replace I:=Lib.hid (Hd.mv I.out ha5)
 replace I:=Lib.hid (Hd.and I.out (Hd.box (blk_new w4 (.cells (fc u A6 c6) 25))))
 obtain ⟨W7,hWW7⟩:∃ W,(w4.alloc (.cells (fc u A6 c6) 25))=W:=⟨_,rfl⟩
 rw [hWW7] at I
 have hW7s:w4.heap.size<W7.heap.size:=by rw [← hWW7];simp
 rw [hWW7] at ha5
 have HA7:=Lib.hid ha5
 have hlo:w.heap.size+3<W5.heap.size:=by have:=Below.size hq1;have:=Below.size hq2;have:=hW5s;omega
 obtain ⟨lu0,lu1,lu2,lu3⟩:=c4A I.out.now.1
 have HZ:W7.heap[w.heap.size+2]? = some (.cells zC 25 (0,0)):=I.out.now.2.2.2.2.2.2.2.2.1
 have HA:W7.heap[w.heap.size+3]? = some (.cells #[.int .u8 0,.int .i64 0,.string ⟨#[]⟩] 46 (0,0)):=I.out.now.2.2.2.2.2.2.2.1
 have HST:=Lib.hid (store7 HZ HA (by omega) (.string u.name) (.int .u8 u.kind) (.string u.data) (.slice A6 u.files.length c6) (.int .u8 0) (.int .i64 0) (.string ⟨#[]⟩))
 have HBV:=Lib.hid (I.out.now.2.2.2.2.2.2.2.2.2.2.2.trans (HST.out.2.2.below (B:=w.heap.size) (by have:=Below.size I.out.now.2.2.2.2.2.2.2.2.2.2.2;omega) (fun k hk e=>by omega)))
 obtain ⟨z0,z1,z2,z3⟩:=c4A HZ
 obtain ⟨u0,u1,u2,u3⟩:=u4A HZ
 obtain ⟨y0,y1,y2⟩:=c3A HA
 obtain ⟨n0,n1,n2⟩:=u3A HA
 go_wp2_with fail
 refine bodyPost_ret (results_cct rfl _ _ (w.heap.size+2) (w.heap.size+3) 25 46 (fc u A6 c6) #[.int .u8 0,.int .i64 0,.string ⟨#[]⟩] (0,0) (0,0) _ _ rfl HST.out.1 Tryz.underlying25 rfl (by kernel_rfl) rfl HST.out.2.1 Tryz.underlying46 rfl (by kernel_rfl)) rfl ?_
 rw [← HE.out]
 exact ⟨A6,c6,rfl,hc6,(fun W9 _ h9=>HU.out W9 fun k h1 h2=>(h9 k (by omega) (Nat.lt_of_lt_of_le (show k<W7.heap.size by omega) HST.out.2.2.size)).trans ((HST.out.2.2.block k (by omega) (by omega)).trans (HA7.out.block k h2))),HBV.out⟩
set_option maxHeartbeats 8000000 in
set_option maxRecDepth 100000 in
theorem rdo4_calls (t:File) (A:Option Addr) (c:Nat) (p q:List ByteArray) (d:ByteArray) (A1 B1:Option Addr) (c1 d1:Nat) (w:World) (ht:FileK.C w A t.files.length t.files) (hc:t.files.length≤c) (hbt:t.bulk≤100000000) (hr:rightT t=true) (hp:Kd.C Kd.string w A1 p.length p) (hc1:p.length≤c1) (hps:P.sumP p≤100000000) (hpn:∀ n∈(walkR t p true).1,n.size≤100000000) (hq:Kd.C Kd.string w B1 q.length q) (hd1:q.length≤d1) (hqs:P.sumP q≤100000000) (hqn:∀ n∈(walkR t q false).1,n.size≤100000000) (hxd:d.size≤100000000) :
  Calls Tryz.prog 31 #[fileV t A c,.agg #[.int .u8 4,.slice A1 p.length c1,.slice B1 q.length d1,.string d]] w fun e w'=>∃ A' c',e=.returned (.tuple #[.agg #[.string (rdo4 t p q d).1.name,.int .u8 (rdo4 t p q d).1.kind,.string (rdo4 t p q d).1.data,.slice A' (rdo4 t p q d).1.files.length c'],.agg #[.int .u8 (rdo4 t p q d).2.1.kind,.int .i64 (rdo4 t p q d).2.1.size,.string (rdo4 t p q d).2.1.data],.int .i64 (rdo4 t p q d).2.2])∧(rdo4 t p q d).1.files.length≤c'∧(∀ W':World,FileK.C W' A t.files.length t.files→(∀ k,w.heap.size≤k→k<w'.heap.size→W'.heap[k]? = w'.heap[k]?)→FileK.C W' A' (rdo4 t p q d).1.files.length (rdo4 t p q d).1.files)∧Below w.heap.size w w':=by
 have h4:=four_all w (.cells (fc t A c) 25) (.cells #[.int .u8 4,.slice A1 p.length c1,.slice B1 q.length d1,.string d] 42) (.cells zC 25) (.cells #[.int .u8 0,.int .i64 0,.string ⟨#[]⟩] 46)
 have I:=Lib.hid (Hd.base h4.2.2.2.2 (by first | exact Nat.le_refl _ | exact Below.size h4.2.2.2.2))
 replace I:=Lib.hid (Hd.and I.out (Hd.box (h4.1)))
 replace I:=Lib.hid (Hd.and I.out (Hd.box (h4.2.1)))
 replace I:=Lib.hid (Hd.and I.out (Hd.box (h4.2.2.1)))
 replace I:=Lib.hid (Hd.and I.out (Hd.box (h4.2.2.2.1)))
 replace I:=Lib.hid (Hd.and I.out (Hd.reads (Kd.C_below ht h4.2.2.2.2)))
 replace I:=Lib.hid (Hd.and I.out (Hd.reads (Kd.C_below hp h4.2.2.2.2)))
 replace I:=Lib.hid (Hd.and I.out (Hd.reads (Kd.C_below hq h4.2.2.2.2)))
 have hs4:w.heap.size+3<((((w.alloc (.cells (fc t A c) 25)).alloc (.cells #[.int .u8 4,.slice A1 p.length c1,.slice B1 q.length d1,.string d] 42)).alloc (.cells zC 25)).alloc (.cells #[.int .u8 0,.int .i64 0,.string ⟨#[]⟩] 46)).heap.size:=blk_lt h4.2.2.2.1
 have HSO:=Lib.hid (right_sort hr)
 have HT0:=Lib.hid (fun W (h:Below w.heap.size w W)=>Kd.C_below ht h)
 obtain ⟨res,hres⟩:∃ r,rdo4 t p q d=r:=⟨_,rfl⟩
 rw [hres]
 unfold rdo4 at hres
 have hpl:=P.sumP_len p
 have hql:=P.sumP_len q
 have hws:=walk_sum t p true
 obtain ⟨⟨q1,h1,i1,k1⟩,hw1⟩:∃ r,walkR t p true=r:=⟨_,rfl⟩
 have HW1:=Lib.hid hw1
 rw [hw1] at hres hws
 simp only at hres hws
 have hq1l:=P.sumP_len q1
 have HR:=Lib.hid hres
 clear hres ht hp hq h4 hr hw1
 go_enter Tryz.func31,Tryz.ntmps31
 unfold fileV
 obtain ⟨lt0,lt1,lt2,lt3⟩:=c4A I.out.now.2.2.2.2.2.2.1
 obtain ⟨lx0,lx1,lx2,lx3⟩:=c4A I.out.now.2.2.2.2.2.1
 go_wp2_with fail
 clear lt0 lt1 lt2 lt3
 clear lx0 lx1 lx2 lx3
 generalize ((((w.alloc (.cells (fc t A c) 25)).alloc (.cells #[.int .u8 4,.slice A1 p.length c1,.slice B1 q.length d1,.string d] 42)).alloc (.cells zC 25)).alloc (.cells #[.int .u8 0,.int .i64 0,.string ⟨#[]⟩] 46))=W0 at *
 refine ((show Calls Tryz.prog 49 #[.agg (fc t A c),.slice A1 p.length c1,.bool true] _ _ from rreal_calls t A c A1 c1 p true _ I.out.now.2.2.1 hc (by omega) HSO.out I.out.now.2.1 hc1 (by omega) (by omega))).mono ?_
 rintro e w1 ⟨B2,d2,rfl,hd2,hC2,hq1⟩
 replace I:=Lib.hid (Hd.mv I.out hq1)
 rw [HW1.out] at hd2 hC2 ⊢
 simp only at hd2 hC2 ⊢
 replace I:=Lib.hid (Hd.and I.out (Hd.reads (hC2)))
 clear hC2
 by_cases hk1:k1=0
 rotate_left
 ·skip
  have hkb:(k1 != 0)=true:=by rw [bne_iff_ne];exact hk1
  have HE:=Lib.hid (show (t,told0 ⟨#[]⟩,k1)=res from by have h:=HR.out;rw [if_neg hk1] at h;exact h)
  have HZ:w1.heap[w.heap.size+2]? = some (.cells zC 25 (0,0)):=I.out.now.2.2.2.2.2.1
  have HA:w1.heap[w.heap.size+3]? = some (.cells #[.int .u8 0,.int .i64 0,.string ⟨#[]⟩] 46 (0,0)):=I.out.now.2.2.2.2.1
  have HST:=Lib.hid (store7 HZ HA (by omega) (.string t.name) (.int .u8 t.kind) (.string t.data) (.slice A t.files.length c) (.int .u8 0) (.int .i64 0) (.string ⟨#[]⟩))
  have HBV:=Lib.hid (I.out.now.2.2.2.2.2.2.2.2.trans (HST.out.2.2.below (B:=w.heap.size) (by have:=Below.size I.out.now.2.2.2.2.2.2.2.2;omega) (fun k hk e=>by omega)))
  obtain ⟨z0,z1,z2,z3⟩:=c4A HZ
  obtain ⟨u0,u1,u2,u3⟩:=u4A HZ
  obtain ⟨y0,y1,y2⟩:=c3A HA
  obtain ⟨n0,n1,n2⟩:=u3A HA
  obtain ⟨lt0,lt1,lt2,lt3⟩:=c4A I.out.now.2.2.2.2.2.2.2.1
  go_wp2_with fail
  refine bodyPost_ret (results_cct rfl _ _ (w.heap.size+2) (w.heap.size+3) 25 46 (fc t A c) #[.int .u8 0,.int .i64 0,.string ⟨#[]⟩] (0,0) (0,0) _ _ rfl HST.out.1 Tryz.underlying25 rfl (by kernel_rfl) rfl HST.out.2.1 Tryz.underlying46 rfl (by kernel_rfl)) rfl ?_
  rw [← HE.out]
  exact ⟨A,c,rfl,hc,(fun _ h9 _=>h9),HBV.out⟩
 subst hk1
 have HR1:=HR.out
 rw [if_pos rfl] at HR1
 obtain ⟨⟨g,gk⟩,hg⟩:∃ g,getR t q1=g:=⟨_,rfl⟩
 have HG:=Lib.hid hg
 have hgb:=get_bulk t q1
 rw [hg] at HR1 hgb
 simp only at HR1 hgb
 have HR1:=Lib.hid HR1
 clear hg
 obtain ⟨lt0,lt1,lt2,lt3⟩:=c4A I.out.now.2.2.2.2.2.2.2.1
 go_wp2_with fail
 clear lt0 lt1 lt2 lt3
 refine ((show Calls Tryz.prog 50 #[.agg (fc t A c),.slice B2 q1.length d2] _ _ from there_calls t A c B2 d2 q1 _ I.out.now.2.2.2.1 hc (by omega) I.out.now.1 hd2 (by omega))).mono ?_
 rintro e w2 ⟨A5,c5,rfl,hc5,hC5,hq2⟩
 replace I:=Lib.hid (Hd.mv I.out hq2)
 rw [HG.out] at hc5 hC5 ⊢
 simp only at hc5 hC5 ⊢
 replace I:=Lib.hid (Hd.and I.out (Hd.reads (hC5 _ fun _ _ _=>rfl)))
 clear hC5
 have ha3:=below_alloc (Below.refl w2.heap.size w2) (.cells (fc g A5 c5) 25)
 replace I:=Lib.hid (Hd.mv I.out ha3)
 replace I:=Lib.hid (Hd.and I.out (Hd.box (blk_new w2 (.cells (fc g A5 c5) 25))))
 obtain ⟨W5,hWW5⟩:∃ W,(w2.alloc (.cells (fc g A5 c5) 25))=W:=⟨_,rfl⟩
 rw [hWW5] at I
 have hW5s:w2.heap.size<W5.heap.size:=by rw [← hWW5];simp
 by_cases hgk:gk=0
 rotate_left
 ·skip
  have hgb1:(gk == 0)=false:=beq_eq_false_iff_ne.2 hgk
  have HE:=Lib.hid (show (t,told0 ⟨#[]⟩,31)=res from by have h:=HR1.out;rw [if_neg hgk] at h;exact h)
  obtain ⟨lx0,lx1,lx2,lx3⟩:=c4A I.out.now.2.2.2.2.2.2.2.2.1
  have HZ:W5.heap[w.heap.size+2]? = some (.cells zC 25 (0,0)):=I.out.now.2.2.2.2.2.2.2.1
  have HA:W5.heap[w.heap.size+3]? = some (.cells #[.int .u8 0,.int .i64 0,.string ⟨#[]⟩] 46 (0,0)):=I.out.now.2.2.2.2.2.2.1
  have HST:=Lib.hid (store7 HZ HA (by omega) (.string t.name) (.int .u8 t.kind) (.string t.data) (.slice A t.files.length c) (.int .u8 0) (.int .i64 0) (.string ⟨#[]⟩))
  have HBV:=Lib.hid (I.out.now.2.2.2.2.2.2.2.2.2.2.trans (HST.out.2.2.below (B:=w.heap.size) (by have:=Below.size I.out.now.2.2.2.2.2.2.2.2.2.2;omega) (fun k hk e=>by omega)))
  obtain ⟨z0,z1,z2,z3⟩:=c4A HZ
  obtain ⟨u0,u1,u2,u3⟩:=u4A HZ
  obtain ⟨y0,y1,y2⟩:=c3A HA
  obtain ⟨n0,n1,n2⟩:=u3A HA
  obtain ⟨lt0,lt1,lt2,lt3⟩:=c4A I.out.now.2.2.2.2.2.2.2.2.2.1
  go_wp2_with fail
  refine bodyPost_ret (results_cct rfl _ _ (w.heap.size+2) (w.heap.size+3) 25 46 (fc t A c) #[.int .u8 0,.int .i64 0,.string ⟨#[]⟩] (0,0) (0,0) _ _ rfl HST.out.1 Tryz.underlying25 rfl (by kernel_rfl) rfl HST.out.2.1 Tryz.underlying46 rfl (by kernel_rfl)) rfl ?_
  rw [← HE.out]
  exact ⟨A,c,rfl,hc,(fun _ h9 _=>h9),HBV.out⟩
 subst hgk
 have hgb1:((0:Int) == 0)=true:=rfl
 have HR2:=HR1.out
 rw [if_pos rfl] at HR2
 replace HR2:=Lib.hid HR2
 by_cases hdk:g.kind=1
 ·skip
  have hdb:(g.kind == 1)=true:=by rw [hdk];rfl
  have HE:=Lib.hid (show (t,told0 ⟨#[]⟩,40)=res from by have h:=HR2.out;rw [if_pos hdk] at h;exact h)
  clear hdk
  obtain ⟨lx0,lx1,lx2,lx3⟩:=c4A I.out.now.2.2.2.2.2.2.2.2.1
  obtain ⟨lf0,lf1,lf2,lf3⟩:=c4A I.out.now.1
  have HZ:W5.heap[w.heap.size+2]? = some (.cells zC 25 (0,0)):=I.out.now.2.2.2.2.2.2.2.1
  have HA:W5.heap[w.heap.size+3]? = some (.cells #[.int .u8 0,.int .i64 0,.string ⟨#[]⟩] 46 (0,0)):=I.out.now.2.2.2.2.2.2.1
  have HST:=Lib.hid (store7 HZ HA (by omega) (.string t.name) (.int .u8 t.kind) (.string t.data) (.slice A t.files.length c) (.int .u8 0) (.int .i64 0) (.string ⟨#[]⟩))
  have HBV:=Lib.hid (I.out.now.2.2.2.2.2.2.2.2.2.2.trans (HST.out.2.2.below (B:=w.heap.size) (by have:=Below.size I.out.now.2.2.2.2.2.2.2.2.2.2;omega) (fun k hk e=>by omega)))
  obtain ⟨z0,z1,z2,z3⟩:=c4A HZ
  obtain ⟨u0,u1,u2,u3⟩:=u4A HZ
  obtain ⟨y0,y1,y2⟩:=c3A HA
  obtain ⟨n0,n1,n2⟩:=u3A HA
  obtain ⟨lt0,lt1,lt2,lt3⟩:=c4A I.out.now.2.2.2.2.2.2.2.2.2.1
  go_wp2_with fail
  refine bodyPost_ret (results_cct rfl _ _ (w.heap.size+2) (w.heap.size+3) 25 46 (fc t A c) #[.int .u8 0,.int .i64 0,.string ⟨#[]⟩] (0,0) (0,0) _ _ rfl HST.out.1 Tryz.underlying25 rfl (by kernel_rfl) rfl HST.out.2.1 Tryz.underlying46 rfl (by kernel_rfl)) rfl ?_
  rw [← HE.out]
  exact ⟨A,c,rfl,hc,(fun _ h9 _=>h9),HBV.out⟩
 have hdb:(g.kind == 1)=false:=beq_eq_false_iff_ne.2 hdk
 have HE0:=Lib.hid (show ((putA t q1 (textF (g.data++d))).1,told0 ⟨#[]⟩,(0:Int))=res from by have h:=HR2.out;rw [if_neg hdk] at h;exact h)
 clear hdk
 have hgd:g.data.size≤100000008:=by have:=bulk_eq g;omega
 have hgd2:g.data.size+d.size≤200000008:=by omega
 have hgd3:¬ (9223372036854775807<g.data.size+d.size):=by omega
 have hfb:(textF (g.data++d)).bulk≤1000000000:=by
  have h1:=bulk_eq (textF (g.data++d))
  have h2:bulkL (textF (g.data++d)).files=0:=rfl
  have h3:(textF (g.data++d)).name.size=0:=rfl
  have h4:(textF (g.data++d)).data=(g.data++d):=rfl
  have h5:=bulk_eq g
  rw [h4,ByteArray.size_append] at h1
  omega
 have hnm:∀ n∈q1,n.size≤1000000000:=fun n hn=>by have:=hpn n (by rw [HW1.out];exact hn);omega
 obtain ⟨lt0,lt1,lt2,lt3⟩:=c4A I.out.now.2.2.2.2.2.2.2.2.2.1
 obtain ⟨lx0,lx1,lx2,lx3⟩:=c4A I.out.now.2.2.2.2.2.2.2.2.1
 obtain ⟨lf0,lf1,lf2,lf3⟩:=c4A I.out.now.1
 go_wp2_with fail
 clear lt0 lt1 lt2 lt3
 clear lx0 lx1 lx2 lx3
 clear lf0 lf1 lf2 lf3
 refine ((show Calls Tryz.prog 51 #[.agg (fc t A c),.slice B2 q1.length d2,.agg #[.string ⟨#[]⟩,.int .u8 2,.string (g.data++d),.slice none 0 0]] _ _ from rputS t (textF (g.data++d)) A none c 0 B2 d2 q1 _ I.out.now.2.2.2.2.2.1 hc (by omega) I.out.now.2.2.1 hd2 (by omega) (Kd.C_nil FileK _) (Nat.le_refl _) hfb hnm)).mono ?_
 rintro e w4 ⟨⟨A6,c6,rfl,hc6,hC6⟩,hq4⟩
 replace I:=Lib.hid (Hd.mv I.out hq4)
 obtain ⟨⟨u,uk⟩,hu⟩:∃ r,putA t q1 (textF (g.data++d))=r:=⟨_,rfl⟩
 have HE1:=HE0.out
 rw [hu] at hc6 hC6 HE1 ⊢
 simp only at hc6 hC6 HE1 ⊢
 have HE:=Lib.hid HE1
 have HU:=Lib.hid hC6
 have hsz4:=hq4.size
 clear hu hC6 HE1
 have ha5:=below_alloc (Below.refl w4.heap.size w4) (.cells (fc u A6 c6) 25)
 replace I:=Lib.hid (Hd.mv I.out ha5)
 replace I:=Lib.hid (Hd.and I.out (Hd.box (blk_new w4 (.cells (fc u A6 c6) 25))))
 obtain ⟨W7,hWW7⟩:∃ W,(w4.alloc (.cells (fc u A6 c6) 25))=W:=⟨_,rfl⟩
 rw [hWW7] at I
 have hW7s:w4.heap.size<W7.heap.size:=by rw [← hWW7];simp
 rw [hWW7] at ha5
 have HA7:=Lib.hid ha5
 have hlo:w.heap.size+3<W5.heap.size:=by have:=Below.size hq1;have:=Below.size hq2;have:=hW5s;omega
 obtain ⟨lu0,lu1,lu2,lu3⟩:=c4A I.out.now.1
 have HZ:W7.heap[w.heap.size+2]? = some (.cells zC 25 (0,0)):=I.out.now.2.2.2.2.2.2.2.2.1
 have HA:W7.heap[w.heap.size+3]? = some (.cells #[.int .u8 0,.int .i64 0,.string ⟨#[]⟩] 46 (0,0)):=I.out.now.2.2.2.2.2.2.2.1
 have HST:=Lib.hid (store7 HZ HA (by omega) (.string u.name) (.int .u8 u.kind) (.string u.data) (.slice A6 u.files.length c6) (.int .u8 0) (.int .i64 0) (.string ⟨#[]⟩))
 have HBV:=Lib.hid (I.out.now.2.2.2.2.2.2.2.2.2.2.2.trans (HST.out.2.2.below (B:=w.heap.size) (by have:=Below.size I.out.now.2.2.2.2.2.2.2.2.2.2.2;omega) (fun k hk e=>by omega)))
 obtain ⟨z0,z1,z2,z3⟩:=c4A HZ
 obtain ⟨u0,u1,u2,u3⟩:=u4A HZ
 obtain ⟨y0,y1,y2⟩:=c3A HA
 obtain ⟨n0,n1,n2⟩:=u3A HA
 go_wp2_with fail
 refine bodyPost_ret (results_cct rfl _ _ (w.heap.size+2) (w.heap.size+3) 25 46 (fc u A6 c6) #[.int .u8 0,.int .i64 0,.string ⟨#[]⟩] (0,0) (0,0) _ _ rfl HST.out.1 Tryz.underlying25 rfl (by kernel_rfl) rfl HST.out.2.1 Tryz.underlying46 rfl (by kernel_rfl)) rfl ?_
 rw [← HE.out]
 exact ⟨A6,c6,rfl,hc6,(fun W9 _ h9=>HU.out W9 fun k h1 h2=>(h9 k (by omega) (Nat.lt_of_lt_of_le (show k<W7.heap.size by omega) HST.out.2.2.size)).trans ((HST.out.2.2.block k (by omega) (by omega)).trans (HA7.out.block k h2))),HBV.out⟩
end Go.Proofs.YthlcjjhfkldmhaaGreatDoor.G
end
section
section
namespace Go.Proofs.YthlcjjhfkldmhaaGreatDoor.G
open Go.RowKit Go.Lib Go.Proofs.YthlcjjhfkldmhaaGreatDoorW.PrintWords Go.Proofs.YthlcjjhfkldmhaaGreatDoorW.PrintLast
set_option linter.unusedVariables false
set_option linter.unusedSimpArgs false
set_option maxHeartbeats 8000000 in
set_option maxRecDepth 100000 in
theorem rdo5_calls (t:File) (A:Option Addr) (c:Nat) (p q:List ByteArray) (d:ByteArray) (A1 B1:Option Addr) (c1 d1:Nat) (w:World) (ht:FileK.C w A t.files.length t.files) (hc:t.files.length≤c) (hbt:t.bulk≤100000000) (hr:rightT t=true) (hp:Kd.C Kd.string w A1 p.length p) (hc1:p.length≤c1) (hps:P.sumP p≤100000000) (hpn:∀ n∈(walkR t p false).1,n.size≤100000000) (hq:Kd.C Kd.string w B1 q.length q) (hd1:q.length≤d1) (hqs:P.sumP q≤100000000) (hqn:∀ n∈(walkR t q false).1,n.size≤100000000) (hxd:d.size≤100000000) :
  Calls Tryz.prog 31 #[fileV t A c,.agg #[.int .u8 5,.slice A1 p.length c1,.slice B1 q.length d1,.string d]] w fun e w'=>∃ A' c',e=.returned (.tuple #[.agg #[.string (rdo5 t p q d).1.name,.int .u8 (rdo5 t p q d).1.kind,.string (rdo5 t p q d).1.data,.slice A' (rdo5 t p q d).1.files.length c'],.agg #[.int .u8 (rdo5 t p q d).2.1.kind,.int .i64 (rdo5 t p q d).2.1.size,.string (rdo5 t p q d).2.1.data],.int .i64 (rdo5 t p q d).2.2])∧(rdo5 t p q d).1.files.length≤c'∧(∀ W':World,FileK.C W' A t.files.length t.files→(∀ k,w.heap.size≤k→k<w'.heap.size→W'.heap[k]? = w'.heap[k]?)→FileK.C W' A' (rdo5 t p q d).1.files.length (rdo5 t p q d).1.files)∧Below w.heap.size w w':=by
 have h4:=four_all w (.cells (fc t A c) 25) (.cells #[.int .u8 5,.slice A1 p.length c1,.slice B1 q.length d1,.string d] 42) (.cells zC 25) (.cells #[.int .u8 0,.int .i64 0,.string ⟨#[]⟩] 46)
 have I:=Lib.hid (Hd.base h4.2.2.2.2 (by first | exact Nat.le_refl _ | exact Below.size h4.2.2.2.2))
 replace I:=Lib.hid (Hd.and I.out (Hd.box (h4.1)))
 replace I:=Lib.hid (Hd.and I.out (Hd.box (h4.2.1)))
 replace I:=Lib.hid (Hd.and I.out (Hd.box (h4.2.2.1)))
 replace I:=Lib.hid (Hd.and I.out (Hd.box (h4.2.2.2.1)))
 replace I:=Lib.hid (Hd.and I.out (Hd.reads (Kd.C_below ht h4.2.2.2.2)))
 replace I:=Lib.hid (Hd.and I.out (Hd.reads (Kd.C_below hp h4.2.2.2.2)))
 replace I:=Lib.hid (Hd.and I.out (Hd.reads (Kd.C_below hq h4.2.2.2.2)))
 have hs4:w.heap.size+3<((((w.alloc (.cells (fc t A c) 25)).alloc (.cells #[.int .u8 5,.slice A1 p.length c1,.slice B1 q.length d1,.string d] 42)).alloc (.cells zC 25)).alloc (.cells #[.int .u8 0,.int .i64 0,.string ⟨#[]⟩] 46)).heap.size:=blk_lt h4.2.2.2.1
 have HSO:=Lib.hid (right_sort hr)
 have HT0:=Lib.hid (fun W (h:Below w.heap.size w W)=>Kd.C_below ht h)
 obtain ⟨res,hres⟩:∃ r,rdo5 t p q d=r:=⟨_,rfl⟩
 rw [hres]
 unfold rdo5 at hres
 have hpl:=P.sumP_len p
 have hql:=P.sumP_len q
 have hws:=walk_sum t p false
 obtain ⟨⟨q1,h1,i1,k1⟩,hw1⟩:∃ r,walkR t p false=r:=⟨_,rfl⟩
 have HW1:=Lib.hid hw1
 rw [hw1] at hres hws
 simp only at hres hws
 have hq1l:=P.sumP_len q1
 have HR:=Lib.hid hres
 clear hres ht hp hq h4 hr hw1
 go_enter Tryz.func31,Tryz.ntmps31
 unfold fileV
 obtain ⟨lt0,lt1,lt2,lt3⟩:=c4A I.out.now.2.2.2.2.2.2.1
 obtain ⟨lx0,lx1,lx2,lx3⟩:=c4A I.out.now.2.2.2.2.2.1
 go_wp2_with fail
 clear lt0 lt1 lt2 lt3
 clear lx0 lx1 lx2 lx3
 generalize ((((w.alloc (.cells (fc t A c) 25)).alloc (.cells #[.int .u8 5,.slice A1 p.length c1,.slice B1 q.length d1,.string d] 42)).alloc (.cells zC 25)).alloc (.cells #[.int .u8 0,.int .i64 0,.string ⟨#[]⟩] 46))=W0 at *
 refine ((show Calls Tryz.prog 49 #[.agg (fc t A c),.slice A1 p.length c1,.bool false] _ _ from rreal_calls t A c A1 c1 p false _ I.out.now.2.2.1 hc (by omega) HSO.out I.out.now.2.1 hc1 (by omega) (by omega))).mono ?_
 rintro e w1 ⟨B2,d2,rfl,hd2,hC2,hq1⟩
 replace I:=Lib.hid (Hd.mv I.out hq1)
 rw [HW1.out] at hd2 hC2 ⊢
 simp only at hd2 hC2 ⊢
 replace I:=Lib.hid (Hd.and I.out (Hd.reads (hC2)))
 clear hC2
 by_cases hk1:k1=0
 rotate_left
 ·skip
  have hkb:(k1 != 0)=true:=by rw [bne_iff_ne];exact hk1
  have HE:=Lib.hid (show (t,told0 ⟨#[]⟩,k1)=res from by have h:=HR.out;rw [if_neg hk1] at h;exact h)
  have HZ:w1.heap[w.heap.size+2]? = some (.cells zC 25 (0,0)):=I.out.now.2.2.2.2.2.1
  have HA:w1.heap[w.heap.size+3]? = some (.cells #[.int .u8 0,.int .i64 0,.string ⟨#[]⟩] 46 (0,0)):=I.out.now.2.2.2.2.1
  have HST:=Lib.hid (store7 HZ HA (by omega) (.string t.name) (.int .u8 t.kind) (.string t.data) (.slice A t.files.length c) (.int .u8 0) (.int .i64 0) (.string ⟨#[]⟩))
  have HBV:=Lib.hid (I.out.now.2.2.2.2.2.2.2.2.trans (HST.out.2.2.below (B:=w.heap.size) (by have:=Below.size I.out.now.2.2.2.2.2.2.2.2;omega) (fun k hk e=>by omega)))
  obtain ⟨z0,z1,z2,z3⟩:=c4A HZ
  obtain ⟨u0,u1,u2,u3⟩:=u4A HZ
  obtain ⟨y0,y1,y2⟩:=c3A HA
  obtain ⟨n0,n1,n2⟩:=u3A HA
  obtain ⟨lt0,lt1,lt2,lt3⟩:=c4A I.out.now.2.2.2.2.2.2.2.1
  go_wp2_with fail
  refine bodyPost_ret (results_cct rfl _ _ (w.heap.size+2) (w.heap.size+3) 25 46 (fc t A c) #[.int .u8 0,.int .i64 0,.string ⟨#[]⟩] (0,0) (0,0) _ _ rfl HST.out.1 Tryz.underlying25 rfl (by kernel_rfl) rfl HST.out.2.1 Tryz.underlying46 rfl (by kernel_rfl)) rfl ?_
  rw [← HE.out]
  exact ⟨A,c,rfl,hc,(fun _ h9 _=>h9),HBV.out⟩
 subst hk1
 have HR1:=HR.out
 rw [if_pos rfl] at HR1
 obtain ⟨⟨g,gk⟩,hg⟩:∃ g,getR t q1=g:=⟨_,rfl⟩
 have HG:=Lib.hid hg
 have hgb:=get_bulk t q1
 rw [hg] at HR1 hgb
 simp only at HR1 hgb
 have HR1:=Lib.hid HR1
 clear hg
 obtain ⟨lt0,lt1,lt2,lt3⟩:=c4A I.out.now.2.2.2.2.2.2.2.1
 go_wp2_with fail
 clear lt0 lt1 lt2 lt3
 refine ((show Calls Tryz.prog 50 #[.agg (fc t A c),.slice B2 q1.length d2] _ _ from there_calls t A c B2 d2 q1 _ I.out.now.2.2.2.1 hc (by omega) I.out.now.1 hd2 (by omega))).mono ?_
 rintro e w2 ⟨A5,c5,rfl,hc5,hC5,hq2⟩
 replace I:=Lib.hid (Hd.mv I.out hq2)
 rw [HG.out] at hc5 hC5 ⊢
 simp only at hc5 hC5 ⊢
 replace I:=Lib.hid (Hd.and I.out (Hd.reads (hC5 _ fun _ _ _=>rfl)))
 clear hC5
 have ha3:=below_alloc (Below.refl w2.heap.size w2) (.cells (fc g A5 c5) 25)
 replace I:=Lib.hid (Hd.mv I.out ha3)
 replace I:=Lib.hid (Hd.and I.out (Hd.box (blk_new w2 (.cells (fc g A5 c5) 25))))
 obtain ⟨W5,hWW5⟩:∃ W,(w2.alloc (.cells (fc g A5 c5) 25))=W:=⟨_,rfl⟩
 rw [hWW5] at I
 have hW5s:w2.heap.size<W5.heap.size:=by rw [← hWW5];simp
 by_cases hgk:gk=0
 rotate_left
 ·skip
  have hgb1:(gk == 0)=false:=beq_eq_false_iff_ne.2 hgk
  have HE:=Lib.hid (show (t,told0 ⟨#[]⟩,31)=res from by have h:=HR1.out;rw [if_neg hgk] at h;exact h)
  obtain ⟨lx0,lx1,lx2,lx3⟩:=c4A I.out.now.2.2.2.2.2.2.2.2.1
  have HZ:W5.heap[w.heap.size+2]? = some (.cells zC 25 (0,0)):=I.out.now.2.2.2.2.2.2.2.1
  have HA:W5.heap[w.heap.size+3]? = some (.cells #[.int .u8 0,.int .i64 0,.string ⟨#[]⟩] 46 (0,0)):=I.out.now.2.2.2.2.2.2.1
  have HST:=Lib.hid (store7 HZ HA (by omega) (.string t.name) (.int .u8 t.kind) (.string t.data) (.slice A t.files.length c) (.int .u8 0) (.int .i64 0) (.string ⟨#[]⟩))
  have HBV:=Lib.hid (I.out.now.2.2.2.2.2.2.2.2.2.2.trans (HST.out.2.2.below (B:=w.heap.size) (by have:=Below.size I.out.now.2.2.2.2.2.2.2.2.2.2;omega) (fun k hk e=>by omega)))
  obtain ⟨z0,z1,z2,z3⟩:=c4A HZ
  obtain ⟨u0,u1,u2,u3⟩:=u4A HZ
  obtain ⟨y0,y1,y2⟩:=c3A HA
  obtain ⟨n0,n1,n2⟩:=u3A HA
  obtain ⟨lt0,lt1,lt2,lt3⟩:=c4A I.out.now.2.2.2.2.2.2.2.2.2.1
  go_wp2_with fail
  refine bodyPost_ret (results_cct rfl _ _ (w.heap.size+2) (w.heap.size+3) 25 46 (fc t A c) #[.int .u8 0,.int .i64 0,.string ⟨#[]⟩] (0,0) (0,0) _ _ rfl HST.out.1 Tryz.underlying25 rfl (by kernel_rfl) rfl HST.out.2.1 Tryz.underlying46 rfl (by kernel_rfl)) rfl ?_
  rw [← HE.out]
  exact ⟨A,c,rfl,hc,(fun _ h9 _=>h9),HBV.out⟩
 subst hgk
 have hgb1:((0:Int) == 0)=true:=rfl
 have HR2:=HR1.out
 rw [if_pos rfl] at HR2
 replace HR2:=Lib.hid HR2
 by_cases hdk:g.kind=1
 ·skip
  have hdb:(g.kind == 1)=true:=by rw [hdk];rfl
  have HE:=Lib.hid (show (t,told0 ⟨#[]⟩,40)=res from by have h:=HR2.out;rw [if_pos hdk] at h;exact h)
  clear hdk
  obtain ⟨lx0,lx1,lx2,lx3⟩:=c4A I.out.now.2.2.2.2.2.2.2.2.1
  obtain ⟨lf0,lf1,lf2,lf3⟩:=c4A I.out.now.1
  have HZ:W5.heap[w.heap.size+2]? = some (.cells zC 25 (0,0)):=I.out.now.2.2.2.2.2.2.2.1
  have HA:W5.heap[w.heap.size+3]? = some (.cells #[.int .u8 0,.int .i64 0,.string ⟨#[]⟩] 46 (0,0)):=I.out.now.2.2.2.2.2.2.1
  have HST:=Lib.hid (store7 HZ HA (by omega) (.string t.name) (.int .u8 t.kind) (.string t.data) (.slice A t.files.length c) (.int .u8 0) (.int .i64 0) (.string ⟨#[]⟩))
  have HBV:=Lib.hid (I.out.now.2.2.2.2.2.2.2.2.2.2.trans (HST.out.2.2.below (B:=w.heap.size) (by have:=Below.size I.out.now.2.2.2.2.2.2.2.2.2.2;omega) (fun k hk e=>by omega)))
  obtain ⟨z0,z1,z2,z3⟩:=c4A HZ
  obtain ⟨u0,u1,u2,u3⟩:=u4A HZ
  obtain ⟨y0,y1,y2⟩:=c3A HA
  obtain ⟨n0,n1,n2⟩:=u3A HA
  obtain ⟨lt0,lt1,lt2,lt3⟩:=c4A I.out.now.2.2.2.2.2.2.2.2.2.1
  go_wp2_with fail
  refine bodyPost_ret (results_cct rfl _ _ (w.heap.size+2) (w.heap.size+3) 25 46 (fc t A c) #[.int .u8 0,.int .i64 0,.string ⟨#[]⟩] (0,0) (0,0) _ _ rfl HST.out.1 Tryz.underlying25 rfl (by kernel_rfl) rfl HST.out.2.1 Tryz.underlying46 rfl (by kernel_rfl)) rfl ?_
  rw [← HE.out]
  exact ⟨A,c,rfl,hc,(fun _ h9 _=>h9),HBV.out⟩
 have hdb:(g.kind == 1)=false:=beq_eq_false_iff_ne.2 hdk
 have HR3:=HR2.out
 rw [if_neg hdk] at HR3
 clear hdk
 have hws2:=walk_sum t q false
 obtain ⟨⟨q2,h2,i2,k2⟩,hw2⟩:∃ r,walkR t q false=r:=⟨_,rfl⟩
 have HW2:=Lib.hid hw2
 rw [hw2] at HR3 hws2
 simp only at HR3 hws2
 have hq2l:=P.sumP_len q2
 have HR4:=Lib.hid HR3
 clear HR3 hw2
 obtain ⟨lt0,lt1,lt2,lt3⟩:=c4A I.out.now.2.2.2.2.2.2.2.2.2.1
 obtain ⟨lx0,lx1,lx2,lx3⟩:=c4A I.out.now.2.2.2.2.2.2.2.2.1
 obtain ⟨lf0,lf1,lf2,lf3⟩:=c4A I.out.now.1
 go_wp2_with fail
 clear lt0 lt1 lt2 lt3
 clear lx0 lx1 lx2 lx3
 clear lf0 lf1 lf2 lf3
 refine ((show Calls Tryz.prog 49 #[.agg (fc t A c),.slice B1 q.length d1,.bool false] _ _ from rreal_calls t A c B1 d1 q false _ I.out.now.2.2.2.2.2.1 hc (by omega) HSO.out I.out.now.2.2.2.1 hd1 (by omega) (by omega))).mono ?_
 rintro e w4 ⟨B7,d7,rfl,hd7,hC7,hq4⟩
 replace I:=Lib.hid (Hd.mv I.out hq4)
 rw [HW2.out] at hd7 hC7 ⊢
 simp only at hd7 hC7 ⊢
 replace I:=Lib.hid (Hd.and I.out (Hd.reads (hC7)))
 clear hC7
 by_cases hk2:k2=0
 rotate_left
 ·skip
  have hkb:(k2 != 0)=true:=by rw [bne_iff_ne];exact hk2
  have HE:=Lib.hid (show (t,told0 ⟨#[]⟩,k2)=res from by have h:=HR4.out;rw [if_neg hk2] at h;exact h)
  have HZ:w4.heap[w.heap.size+2]? = some (.cells zC 25 (0,0)):=I.out.now.2.2.2.2.2.2.2.2.1
  have HA:w4.heap[w.heap.size+3]? = some (.cells #[.int .u8 0,.int .i64 0,.string ⟨#[]⟩] 46 (0,0)):=I.out.now.2.2.2.2.2.2.2.1
  have HST:=Lib.hid (store7 HZ HA (by omega) (.string t.name) (.int .u8 t.kind) (.string t.data) (.slice A t.files.length c) (.int .u8 0) (.int .i64 0) (.string ⟨#[]⟩))
  have HBV:=Lib.hid (I.out.now.2.2.2.2.2.2.2.2.2.2.2.trans (HST.out.2.2.below (B:=w.heap.size) (by have:=Below.size I.out.now.2.2.2.2.2.2.2.2.2.2.2;omega) (fun k hk e=>by omega)))
  obtain ⟨z0,z1,z2,z3⟩:=c4A HZ
  obtain ⟨u0,u1,u2,u3⟩:=u4A HZ
  obtain ⟨y0,y1,y2⟩:=c3A HA
  obtain ⟨n0,n1,n2⟩:=u3A HA
  obtain ⟨lt0,lt1,lt2,lt3⟩:=c4A I.out.now.2.2.2.2.2.2.2.2.2.2.1
  go_wp2_with fail
  refine bodyPost_ret (results_cct rfl _ _ (w.heap.size+2) (w.heap.size+3) 25 46 (fc t A c) #[.int .u8 0,.int .i64 0,.string ⟨#[]⟩] (0,0) (0,0) _ _ rfl HST.out.1 Tryz.underlying25 rfl (by kernel_rfl) rfl HST.out.2.1 Tryz.underlying46 rfl (by kernel_rfl)) rfl ?_
  rw [← HE.out]
  exact ⟨A,c,rfl,hc,(fun _ h9 _=>h9),HBV.out⟩
 subst hk2
 have HR5:=HR4.out
 rw [if_pos rfl] at HR5
 obtain ⟨⟨g2,gk2⟩,hg2⟩:∃ g,getR t q2=g:=⟨_,rfl⟩
 have HG2:=Lib.hid hg2
 rw [hg2] at HR5
 simp only at HR5
 have HR5:=Lib.hid HR5
 clear hg2
 obtain ⟨lt0,lt1,lt2,lt3⟩:=c4A I.out.now.2.2.2.2.2.2.2.2.2.2.1
 go_wp2_with fail
 clear lt0 lt1 lt2 lt3
 refine ((show Calls Tryz.prog 50 #[.agg (fc t A c),.slice B7 q2.length d7] _ _ from there_calls t A c B7 d7 q2 _ I.out.now.2.2.2.2.2.2.1 hc (by omega) I.out.now.1 hd7 (by omega))).mono ?_
 rintro e w5 ⟨A8,c8,rfl,hc8,hC8,hq5⟩
 replace I:=Lib.hid (Hd.mv I.out hq5)
 rw [HG2.out] at hc8 hC8 ⊢
 simp only at hc8 hC8 ⊢
 replace I:=Lib.hid (Hd.and I.out (Hd.reads (hC8 _ fun _ _ _=>rfl)))
 clear hC8
 have ha6:=below_alloc (Below.refl w5.heap.size w5) (.cells (fc g2 A8 c8) 25)
 replace I:=Lib.hid (Hd.mv I.out ha6)
 replace I:=Lib.hid (Hd.and I.out (Hd.box (blk_new w5 (.cells (fc g2 A8 c8) 25))))
 obtain ⟨W8,hWW8⟩:∃ W,(w5.alloc (.cells (fc g2 A8 c8) 25))=W:=⟨_,rfl⟩
 rw [hWW8] at I
 have hW8s:=blk_lt I.out.now.1
 by_cases hd2k:gk2=0∧g2.kind=1
 ·skip
  have hb1:(gk2 == 0)=true:=by rw [hd2k.1];rfl
  have hb2:(g2.kind == 1)=true:=by rw [hd2k.2];rfl
  have HE:=Lib.hid (show (t,told0 ⟨#[]⟩,40)=res from by have h:=HR5.out;rw [if_pos hd2k] at h;exact h)
  clear hd2k
  obtain ⟨lg0,lg1,lg2,lg3⟩:=c4A I.out.now.1
  have HZ:W8.heap[w.heap.size+2]? = some (.cells zC 25 (0,0)):=I.out.now.2.2.2.2.2.2.2.2.2.2.1
  have HA:W8.heap[w.heap.size+3]? = some (.cells #[.int .u8 0,.int .i64 0,.string ⟨#[]⟩] 46 (0,0)):=I.out.now.2.2.2.2.2.2.2.2.2.1
  have HST:=Lib.hid (store7 HZ HA (by omega) (.string t.name) (.int .u8 t.kind) (.string t.data) (.slice A t.files.length c) (.int .u8 0) (.int .i64 0) (.string ⟨#[]⟩))
  have HBV:=Lib.hid (I.out.now.2.2.2.2.2.2.2.2.2.2.2.2.2.trans (HST.out.2.2.below (B:=w.heap.size) (by have:=Below.size I.out.now.2.2.2.2.2.2.2.2.2.2.2.2.2;omega) (fun k hk e=>by omega)))
  obtain ⟨z0,z1,z2,z3⟩:=c4A HZ
  obtain ⟨u0,u1,u2,u3⟩:=u4A HZ
  obtain ⟨y0,y1,y2⟩:=c3A HA
  obtain ⟨n0,n1,n2⟩:=u3A HA
  obtain ⟨lt0,lt1,lt2,lt3⟩:=c4A I.out.now.2.2.2.2.2.2.2.2.2.2.2.2.1
  go_wp2_with fail
  refine bodyPost_ret (results_cct rfl _ _ (w.heap.size+2) (w.heap.size+3) 25 46 (fc t A c) #[.int .u8 0,.int .i64 0,.string ⟨#[]⟩] (0,0) (0,0) _ _ rfl HST.out.1 Tryz.underlying25 rfl (by kernel_rfl) rfl HST.out.2.1 Tryz.underlying46 rfl (by kernel_rfl)) rfl ?_
  rw [← HE.out]
  exact ⟨A,c,rfl,hc,(fun _ h9 _=>h9),HBV.out⟩
 have HR6:=HR5.out
 rw [if_neg hd2k] at HR6
 have HR6:=Lib.hid HR6
 have HND:Hid (¬ (gk2=0∧g2.kind=1)):=Lib.hid hd2k
 clear hd2k
 obtain ⟨b1,hb1⟩:∃ b,(gk2 == 0)=b:=⟨_,rfl⟩
 obtain ⟨b2,hb2⟩:∃ b,(g2.kind == 1)=b:=⟨_,rfl⟩
 have hbb:(b1 && b2)=false:=by
  cases b1
  ·rfl
  ·cases b2
   ·rfl
   ·exact absurd ⟨beq_iff_eq.1 hb1,beq_iff_eq.1 hb2⟩ HND.out
 have HSM:Hid (∀ W,Below W8.heap.size W8 W→Calls Tryz.prog 19 #[.slice B2 q1.length d2,.slice B7 q2.length d7] W fun e w'=>e=.returned (.bool (P.sameB q1 q2))∧Below W.heap.size W w'):=Lib.hid (fun W h=>(P.rsame_calls B2 d2 q1 B7 d7 q2 W (Kd.C_below I.out.now.2.2.2.2.2.1 h) hd2 (Kd.C_below I.out.now.2.2.1 h) hd7 (by omega)).mono (by rintro e w' ⟨rfl,n,rfl⟩;exact ⟨rfl,bdrewN (Below.refl _ _) n⟩))
 obtain ⟨lg0,lg1,lg2,lg3⟩:=c4A I.out.now.1
 have hb3:b1=true→b2=false:=fun h=>by rw [h] at hbb;exact hbb
 cases b1
 rotate_left
 obtain rfl:b2=false:=hb3 rfl
 rotate_left
 all_goals
  go_wp2_with fail
  clear lg0 lg1 lg2 lg3
  refine (HSM.out _ (Below.refl _ _)).mono ?_
  rintro e w7 ⟨rfl,hq7⟩
  replace I:=Lib.hid (Hd.mv I.out hq7)
  obtain ⟨sm,hsm⟩:∃ b,P.sameB q1 q2=b:=⟨_,rfl⟩
  rw [hsm]
  cases sm
  rotate_left
  ·skip
   have HE:=Lib.hid (show (t,told0 ⟨#[]⟩,(0:Int))=res from by have h:=HR6.out;rw [if_pos hsm] at h;exact h)
   clear hsm
   have HZ:w7.heap[w.heap.size+2]? = some (.cells zC 25 (0,0)):=I.out.now.2.2.2.2.2.2.2.2.2.2.1
   have HA:w7.heap[w.heap.size+3]? = some (.cells #[.int .u8 0,.int .i64 0,.string ⟨#[]⟩] 46 (0,0)):=I.out.now.2.2.2.2.2.2.2.2.2.1
   have HST:=Lib.hid (store7 HZ HA (by omega) (.string t.name) (.int .u8 t.kind) (.string t.data) (.slice A t.files.length c) (.int .u8 0) (.int .i64 0) (.string ⟨#[]⟩))
   have HBV:=Lib.hid (I.out.now.2.2.2.2.2.2.2.2.2.2.2.2.2.trans (HST.out.2.2.below (B:=w.heap.size) (by have:=Below.size I.out.now.2.2.2.2.2.2.2.2.2.2.2.2.2;omega) (fun k hk e=>by omega)))
   obtain ⟨z0,z1,z2,z3⟩:=c4A HZ
   obtain ⟨u0,u1,u2,u3⟩:=u4A HZ
   obtain ⟨y0,y1,y2⟩:=c3A HA
   obtain ⟨n0,n1,n2⟩:=u3A HA
   obtain ⟨lt0,lt1,lt2,lt3⟩:=c4A I.out.now.2.2.2.2.2.2.2.2.2.2.2.2.1
   go_wp2_with fail
   refine bodyPost_ret (results_cct rfl _ _ (w.heap.size+2) (w.heap.size+3) 25 46 (fc t A c) #[.int .u8 0,.int .i64 0,.string ⟨#[]⟩] (0,0) (0,0) _ _ rfl HST.out.1 Tryz.underlying25 rfl (by kernel_rfl) rfl HST.out.2.1 Tryz.underlying46 rfl (by kernel_rfl)) rfl ?_
   rw [← HE.out]
   exact ⟨A,c,rfl,hc,(fun _ h9 _=>h9),HBV.out⟩
  have HE0:=Lib.hid (show ((putA (dropA t q1).1 q2 g).1,told0 ⟨#[]⟩,(0:Int))=res from by have h:=HR6.out;rw [if_neg (by rw [hsm];decide)] at h;exact h)
  clear hsm
  obtain ⟨lt0,lt1,lt2,lt3⟩:=c4A I.out.now.2.2.2.2.2.2.2.2.2.2.2.2.1
  go_wp2_with fail
  clear lt0 lt1 lt2 lt3
  refine ((show Calls Tryz.prog 52 #[.agg (fc t A c),.slice B2 q1.length d2] _ _ from rdropS t A c B2 d2 q1 _ I.out.now.2.2.2.2.2.2.2.2.1 hc (by omega) I.out.now.2.2.2.2.2.1 hd2 (by omega))).mono ?_
  rintro e w8 ⟨⟨A9,c9,rfl,hc9,hC9⟩,hq8⟩
  replace I:=Lib.hid (Hd.mv I.out hq8)
  have hdbk:=dropA_bulk t q1
  obtain ⟨⟨v,vk⟩,hv⟩:∃ r,dropA t q1=r:=⟨_,rfl⟩
  have HE1:=HE0.out
  rw [hv] at hc9 hC9 hdbk HE1 ⊢
  simp only at hc9 hC9 hdbk HE1 ⊢
  have HE1:=Lib.hid HE1
  replace I:=Lib.hid (Hd.and I.out (Hd.reads (hC9 _ fun _ _ _=>rfl)))
  clear hC9 hv
  have ha9:=below_alloc (Below.refl w8.heap.size w8) (.cells (fc v A9 c9) 25)
  replace I:=Lib.hid (Hd.mv I.out ha9)
  replace I:=Lib.hid (Hd.and I.out (Hd.box (blk_new w8 (.cells (fc v A9 c9) 25))))
  obtain ⟨W9,hWW9⟩:∃ W,(w8.alloc (.cells (fc v A9 c9) 25))=W:=⟨_,rfl⟩
  rw [hWW9] at I
  have hnm:∀ n∈q2,n.size≤1000000000:=fun n hn=>by have:=hqn n (by rw [HW2.out];exact hn);omega
  have hW9s:=blk_lt I.out.now.1
  obtain ⟨lv0,lv1,lv2,lv3⟩:=c4A I.out.now.1
  obtain ⟨lf0,lf1,lf2,lf3⟩:=c4A I.out.now.2.2.2.2.2.1
  go_wp2_with fail
  clear lv0 lv1 lv2 lv3
  clear lf0 lf1 lf2 lf3
  refine ((show Calls Tryz.prog 51 #[.agg (fc v A9 c9),.slice B7 q2.length d7,.agg (fc g A5 c5)] _ _ from rputS v g A9 A5 c9 c5 B7 d7 q2 _ I.out.now.2.1 hc9 (by omega) I.out.now.2.2.2.2.1 hd7 (by omega) I.out.now.2.2.2.2.2.2.1 hc5 (by omega) hnm)).mono ?_
  rintro e w10 ⟨⟨A6,c6,rfl,hc6,hC6⟩,hq10⟩
  replace I:=Lib.hid (Hd.mv I.out hq10)
  obtain ⟨⟨u,uk⟩,hu⟩:∃ r,putA v q2 g=r:=⟨_,rfl⟩
  have HE2:=HE1.out
  rw [hu] at hc6 hC6 HE2 ⊢
  simp only at hc6 hC6 HE2 ⊢
  have HE:=Lib.hid HE2
  have HU:=Lib.hid hC6
  clear hu hC6 HE2
  have hlo:w.heap.size+3<w8.heap.size:=by have:=hq1.size;have:=hq2.size;have:=hW5s;have:=Below.size hq4;have:=Below.size hq5;have:=Below.size hq7;have:=Below.size hq8;omega
  have hlo2:w8.heap.size<W9.heap.size:=hW9s
  have hkz:=hq10.size
  have HVB:=I.out.now.1
  have HRB:w10.heap[w.heap.size+2]? = some (.cells zC 25 (0,0)):=I.out.now.2.2.2.2.2.2.2.2.2.2.2.2.1
  have HAB:w10.heap[w.heap.size+3]? = some (.cells #[.int .u8 0,.int .i64 0,.string ⟨#[]⟩] 46 (0,0)):=I.out.now.2.2.2.2.2.2.2.2.2.2.2.1
  have HSV:=store4_box HVB (.string u.name) (.int .u8 u.kind) (.string u.data) (.slice A6 u.files.length c6)
  have HRV:=(store4_other w10 (g:=w8.heap.size) (by omega) (.string u.name) (.int .u8 u.kind) (.string u.data) (.slice A6 u.files.length c6)).trans HRB
  have HAV:=(store4_other w10 (g:=w8.heap.size) (by omega) (.string u.name) (.int .u8 u.kind) (.string u.data) (.slice A6 u.files.length c6)).trans HAB
  have HBV0:=store4_below I.out.now.2.2.2.2.2.2.2.2.2.2.2.2.2.2.2 (g:=w8.heap.size) (by omega) (.string u.name) (.int .u8 u.kind) (.string u.data) (.slice A6 u.files.length c6)
  have HKV:Hid (∀ k,k≠w8.heap.size→((((w10.setCell ⟨w8.heap.size,0,none⟩ (.string u.name)).setCell ⟨w8.heap.size,1,none⟩ (.int .u8 u.kind)).setCell ⟨w8.heap.size,2,none⟩ (.string u.data)).setCell ⟨w8.heap.size,3,none⟩ (.slice A6 u.files.length c6)).heap[k]? = w10.heap[k]?):=Lib.hid fun k hk=>store4_other w10 (g:=w8.heap.size) hk (.string u.name) (.int .u8 u.kind) (.string u.data) (.slice A6 u.files.length c6)
  obtain ⟨zv0,zv1,zv2,zv3⟩:=c4A HVB
  obtain ⟨uv0,uv1,uv2,uv3⟩:=u4A HVB
  obtain ⟨W10,hW10⟩:∃ W,((((w10.setCell ⟨w8.heap.size,0,none⟩ (.string u.name)).setCell ⟨w8.heap.size,1,none⟩ (.int .u8 u.kind)).setCell ⟨w8.heap.size,2,none⟩ (.string u.data)).setCell ⟨w8.heap.size,3,none⟩ (.slice A6 u.files.length c6))=W:=⟨_,rfl⟩
  rw [hW10] at HSV HRV HAV HBV0 HKV
  have hs10:W10.heap.size=w10.heap.size:=by rw [← hW10,store4_size]
  clear I HVB HRB HAB
  have I:=Lib.hid (Hd.base HBV0 (by first | exact Nat.le_refl _ | exact Below.size HBV0))
  replace I:=Lib.hid (Hd.and I.out (Hd.box (HSV)))
  replace I:=Lib.hid (Hd.and I.out (Hd.box (HRV)))
  replace I:=Lib.hid (Hd.and I.out (Hd.box (HAV)))
  clear HSV HRV HAV
  have HZ:W10.heap[w.heap.size+2]? = some (.cells zC 25 (0,0)):=I.out.now.2.1
  have HA:W10.heap[w.heap.size+3]? = some (.cells #[.int .u8 0,.int .i64 0,.string ⟨#[]⟩] 46 (0,0)):=I.out.now.1
  have HST:=Lib.hid (store7 HZ HA (by omega) (.string u.name) (.int .u8 u.kind) (.string u.data) (.slice A6 u.files.length c6) (.int .u8 0) (.int .i64 0) (.string ⟨#[]⟩))
  have HBV:=Lib.hid (I.out.now.2.2.2.trans (HST.out.2.2.below (B:=w.heap.size) (by have:=Below.size I.out.now.2.2.2;omega) (fun k hk e=>by omega)))
  obtain ⟨z0,z1,z2,z3⟩:=c4A HZ
  obtain ⟨u0,u1,u2,u3⟩:=u4A HZ
  obtain ⟨y0,y1,y2⟩:=c3A HA
  obtain ⟨n0,n1,n2⟩:=u3A HA
  obtain ⟨lv0,lv1,lv2,lv3⟩:=c4A I.out.now.2.2.1
  go_wp2_with fail
  refine bodyPost_ret (results_cct rfl _ _ (w.heap.size+2) (w.heap.size+3) 25 46 (fc u A6 c6) #[.int .u8 0,.int .i64 0,.string ⟨#[]⟩] (0,0) (0,0) _ _ rfl HST.out.1 Tryz.underlying25 rfl (by kernel_rfl) rfl HST.out.2.1 Tryz.underlying46 rfl (by kernel_rfl)) rfl ?_
  rw [← HE.out]
  exact ⟨A6,c6,rfl,hc6,(fun W9 _ h9=>HU.out W9 fun k h1 h2=>(h9 k (by omega) (Nat.lt_of_lt_of_le (show k<W10.heap.size by omega) HST.out.2.2.size)).trans ((HST.out.2.2.block k (by omega) (by omega)).trans (HKV.out k (by omega)))),HBV.out⟩
end Go.Proofs.YthlcjjhfkldmhaaGreatDoor.G
end
section
section
namespace Go.Proofs.YthlcjjhfkldmhaaGreatDoor.G
open Go.RowKit Go.Lib Go.Proofs.YthlcjjhfkldmhaaGreatDoorW.PrintWords Go.Proofs.YthlcjjhfkldmhaaGreatDoorW.PrintLast
set_option linter.unusedVariables false
set_option linter.unusedSimpArgs false
def Sound (last:Bool) (r:WR):Prop:=(r.2.2.2≠0→r.1=[])∧(r.2.2.2=0→r.1.length≤64∧(r.2.2.1=true→last=true→r.2.1.kind≠3))
theorem sound_bad (last:Bool) (k:Int) (hk:k≠0):Sound last (badW k):=⟨fun _=>rfl,fun h=>absurd h hk⟩
theorem walkIn_sound (last:Bool) (follow:Option (List ByteArray→WR)) (hf:∀ g,follow=some g→∀ todo,todo.length≤64→Sound last (g todo)) :
  ∀ (todo done:List ByteArray) (here:File),done.length+todo.length≤64→(last=true→here.kind≠3)→Sound last (walkIn last follow todo done here)
 | [],done,here,hl,hk=>by
  rw [walkIn]
  exact ⟨fun h=>absurd rfl h,fun _=>And.intro (by simpa using hl) (fun _=>hk)⟩
 | n :: rest,done,here,hl,hk=>by
  simp only [List.length_cons] at hl
  rw [walkIn]
  split
  ·split
   ·split
    ·rename_i h0
     exact ⟨fun h=>absurd rfl h,fun _=>And.intro (by rw [List.length_append,List.length_singleton];omega) (fun h=>Bool.noConfusion h)⟩
    ·exact sound_bad _ _ (by decide)
   ·rename_i x hx
    split
    ·split
     ·exact sound_bad _ _ (by decide)
     ·rename_i g
      split
      ·split
       ·rename_i h64
        exact hf g rfl _ h64
       ·exact sound_bad _ _ (by decide)
      ·rename_i hz
       exact sound_bad _ _ hz
    ·rename_i h3
     exact walkIn_sound last follow hf rest (done++[n]) x (by rw [List.length_append,List.length_singleton];omega) fun hl2 h=>h3 ⟨h,fun h4=>by rw [hl2] at h4;exact absurd h4.2 (by decide)⟩
  ·exact sound_bad _ _ (by decide)
theorem follow_sound (t:File) (ht:t.kind=1) (last:Bool):∀ (k:Nat) (g:List ByteArray→WR),followK t last k=some g→∀ todo,todo.length≤64→Sound last (g todo)
 | 0,g,h=>by simp [followK] at h
 | k+1,g,h=>by
  intro todo h64
  simp only [followK,Option.some.injEq] at h
  subst h
  exact walkIn_sound last (followK t last k) (follow_sound t ht last k) todo [] t (by simpa using h64) fun _=>by omega
theorem walk_sound (t:File) (ht:t.kind=1) (p:List ByteArray) (last:Bool):Sound last (walkR t p last):=by
 unfold walkR
 split
 ·rename_i h64
  exact walkIn_sound last (followK t last 40) (follow_sound t ht last 40) p [] t (by simpa using h64) fun _=>by omega
 ·exact sound_bad _ _ (by decide)
theorem get_of_go {t y:File} {q:List ByteArray} (ht:rightT t=true) (h:goP t q=(0,some y)):getR t q=(y,0):=by
 unfold getR
 rw [if_pos ht,h]
end Go.Proofs.YthlcjjhfkldmhaaGreatDoor.G
end
section
section
namespace Go.Proofs.YthlcjjhfkldmhaaGreatDoor.G
open Go.RowKit Go.Lib Go.Proofs.YthlcjjhfkldmhaaGreatDoorW.PrintWords Go.Proofs.YthlcjjhfkldmhaaGreatDoorW.PrintLast
set_option linter.unusedVariables false
set_option linter.unusedSimpArgs false
def AllTwo (R:File→File→Prop):List File→List File→Prop
 | [],[]=>True
 | x :: l,y :: m=>R x y∧AllTwo R l m
 | _,_=>False
theorem two_same {R:File→File→Prop}:∀ {l:List File},(∀ x∈l,R x x)→AllTwo R l l
 | [],_=>trivial
 | x :: l,h=>⟨h x (List.mem_cons_self ..),two_same fun y hy=>h y (List.mem_cons_of_mem _ hy)⟩
theorem wrongL_two {rec rec':File→List ByteArray→Option (List ByteArray)} {p:List ByteArray}:∀ {l m:List File} {prev:Option ByteArray},
  AllTwo (fun x y=>x.name=y.name∧aloneB x=aloneB y∧∀ q,rec x q=none→rec' y q=none) l m→wrongL rec p prev l=none→wrongL rec' p prev m=none
 | [],[],_,_,_=>rfl
 | [],_ :: _,_,h,_=>h.elim
 | _ :: _,[],_,h,_=>h.elim
 | x :: l,y :: m,prev,⟨⟨h1,h2,h3⟩,h4⟩,h=>by
  rw [wrongL] at h ⊢
  have hb:badF prev (p++[y.name]) y=badF prev (p++[x.name]) x:=by
   unfold badF
   rw [h1,h2]
  rw [hb,← h1]
  split at h
  ·cases h
  ·rename_i hn
   rw [if_neg hn]
   split at h
   ·cases h
   ·rename_i hr
    rw [h3 _ hr]
    exact wrongL_two h4 h
theorem wrong_fuel:∀ (n m:Nat) (f:File) (p:List ByteArray),f.bulk≤n→f.bulk≤m→wrongN n f p=none→wrongN m f p=none
 | 0,m,f,p,h,_,_=>by have:=bulk_eq f;omega
 | n+1,0,f,p,_,h,_=>by have:=bulk_eq f;omega
 | n+1,m+1,f,p,h1,h2,h=>by
  rw [wrongN] at h ⊢
  exact wrongL_two (two_same fun x hx=>⟨rfl,rfl,fun q hq=>wrong_fuel n m x q (by have:=bulk_child hx;omega) (by have:=bulk_child hx;omega) hq⟩) h
end Go.Proofs.YthlcjjhfkldmhaaGreatDoor.G
end
section
namespace Go.Proofs.YthlcjjhfkldmhaaGreatDoor.G
open Go.RowKit Go.Lib Go.Proofs.YthlcjjhfkldmhaaGreatDoorW.PrintWords Go.Proofs.YthlcjjhfkldmhaaGreatDoorW.PrintLast
set_option linter.unusedVariables false
set_option linter.unusedSimpArgs false
theorem go_nil (t:File):goP t []=(0,some t):=by rw [goP]
end Go.Proofs.YthlcjjhfkldmhaaGreatDoor.G
end
end
section
section
namespace Go.Proofs.YthlcjjhfkldmhaaGreatDoor.P
section
open Go.RowKit Go.Lib Go.Proofs.YthlcjjhfkldmhaaGreatDoorW.PrintWords Go.Proofs.YthlcjjhfkldmhaaGreatDoorW.PrintLast Go.Proofs.YthlcjjhfkldmhaaGreatDoor.G
set_option linter.unusedVariables false
set_option linter.unusedSimpArgs false
theorem splitB_mem:∀ (l:List UInt8) (x:List UInt8),x∈splitB l→∀ b∈x,b≠47∧b∈l
 | [],x,hx,b,hb=>by
  simp [splitB] at hx
  subst hx
  cases hb
 | c :: l,x,hx,b,hb=>by
  have ih:=splitB_mem l
  unfold splitB at hx
  split at hx
  ·rcases List.mem_cons.1 hx with rfl | hx
   ·cases hb
   ·have:=ih x hx b hb
    exact ⟨this.1,List.mem_cons_of_mem _ this.2⟩
  ·rename_i hc
   split at hx
   ·rename_i h t hs
    rcases List.mem_cons.1 hx with rfl | hx
    ·rcases List.mem_cons.1 hb with rfl | hb
     ·exact ⟨hc,List.mem_cons_self⟩
     ·have:=ih h (by rw [hs];exact List.mem_cons_self) b hb
      exact ⟨this.1,List.mem_cons_of_mem _ this.2⟩
    ·have:=ih x (by rw [hs];exact List.mem_cons_of_mem _ hx) b hb
     exact ⟨this.1,List.mem_cons_of_mem _ this.2⟩
   ·rename_i hs
    exact absurd hs (splitB_ne l)
theorem data_mk (l:List UInt8):(⟨l.toArray⟩:ByteArray).data.toList=l:=by simp
theorem partsL_mem {s x:ByteArray} (h:x∈partsL s):∀ b∈x.data.toList,b≠47∧b∈s.data.toList:=by
 obtain ⟨l,hl,rfl⟩:=List.mem_map.1 h
 intro b hb
 rw [data_mk] at hb
 exact splitB_mem _ l hl b hb
theorem name_of {x:ByteArray} (h1:x.toList.isEmpty=false) (h2:(x.toList == [46])=false) (h3:(x.toList == [46,46])=false) (h4:longB x=false) (h5:∀ b∈x.data.toList,b≠47∧b≠0):nameB x.data.toList=true:=by
 rw [Lib.toList_data] at h1 h2 h3
 unfold nameB
 unfold longB at h4
 have h6:=of_decide_eq_false h4
 rw [Lib.size_eq] at h6
 rw [beq_eq_false_iff_ne] at h2 h3
 simp only [Bool.and_eq_true,Bool.not_eq_true',decide_eq_true_iff,bne_iff_ne,List.any_eq_false,Bool.or_eq_true,beq_iff_eq]
 refine ⟨⟨⟨⟨h1,by omega⟩,h2⟩,h3⟩,fun b hb => ?_⟩
 have:=h5 b hb
 rintro (h | h)
 ·exact this.1 h
 ·exact this.2 h
theorem stepAt_all {a:List ByteArray} {x:ByteArray} (ha:∀ y∈a,nameB y.data.toList=true) (h4:longB x=false) (h5:∀ b∈x.data.toList,b≠47∧b≠0):∀ y∈stepAt a x,nameB y.data.toList=true:=by
 intro y hy
 unfold stepAt at hy
 split at hy
 ·exact ha y hy
 ·rename_i h
  simp only [Bool.or_eq_true,not_or,Bool.not_eq_true] at h
  split at hy
  ·exact ha y (List.dropLast_subset _ hy)
  ·rename_i h3
   simp only [Bool.not_eq_true] at h3
   rcases List.mem_append.1 hy with hy | hy
   ·exact ha y hy
   ·obtain rfl:=List.mem_singleton.1 hy
    exact name_of h.1 h.2 h3 h4 h5
theorem foldl_all:∀ (ps a:List ByteArray),(∀ y∈a,nameB y.data.toList=true)→(∀ x∈ps,longB x=false∧∀ b∈x.data.toList,b≠47∧b≠0)→∀ y∈ps.foldl stepAt a,nameB y.data.toList=true
 | [],a,ha,_=>ha
 | x :: ps,a,ha,h=>foldl_all ps _ (stepAt_all ha (h x List.mem_cons_self).1 (h x List.mem_cons_self).2) (fun y hy=>h y (List.mem_cons_of_mem _ hy))
theorem right_iff {p:List ByteArray}:rightB p=true↔sizeP p≤1024∧∀ x∈p,nameB x.data.toList=true:=by
 unfold rightB
 rw [Bool.and_eq_true,decide_eq_true_iff,List.all_eq_true]
structure NormOK (a:List ByteArray) (s:ByteArray):Prop where
 right:rightB a=true
 size:(s.size:Int)≤1024
 some:s.toList.isEmpty=false
 zero:decide (0≤Lib.indexByte s.data.toList 0)=false
 short:(partsL s).any longB=false
 fits:sizeP ((partsL s).foldl stepAt (startL a s))≤1024
theorem normR_of {a:List ByteArray} {s:ByteArray} (h:NormOK a s):normR a s=((partsL s).foldl stepAt (startL a s),dirB ((partsL s).getLastD ⟨#[]⟩),0):=by
 unfold normR
 rw [h.right,if_pos rfl,if_pos h.size,h.some,h.zero,h.short]
 simp only [Bool.or_self,Bool.false_eq_true,if_false]
 rw [if_pos h.fits]
theorem normR_cases (a:List ByteArray) (s:ByteArray):NormOK a s∨((normR a s).1=[]∧(normR a s).2.1=false∧((normR a s).2.2=20∨(normR a s).2.2=4)):=by
 by_cases h1:rightB a=true
 ·by_cases h2:(s.size:Int)≤1024
  ·by_cases h3:(s.toList.isEmpty || decide (0≤Lib.indexByte s.data.toList 0))=true
   ·right
    unfold normR
    rw [if_pos h1,if_pos h2,if_pos h3]
    exact ⟨rfl,rfl,.inl rfl⟩
   ·by_cases h4:(partsL s).any longB=true
    ·right
     unfold normR
     rw [if_pos h1,if_pos h2,if_neg h3,if_pos h4]
     exact ⟨rfl,rfl,.inl rfl⟩
    ·by_cases h5:sizeP ((partsL s).foldl stepAt (startL a s))≤1024
     ·left
      simp only [Bool.or_eq_true,not_or,Bool.not_eq_true] at h3 h4
      exact ⟨h1,h2,h3.1,h3.2,h4,h5⟩
     ·right
      unfold normR
      rw [if_pos h1,if_pos h2,if_neg h3,if_neg h4,if_neg h5]
      exact ⟨rfl,rfl,.inr rfl⟩
  ·right
   unfold normR
   rw [if_pos h1,if_neg h2]
   exact ⟨rfl,rfl,.inr rfl⟩
 ·right
  unfold normR
  rw [if_neg h1]
  exact ⟨rfl,rfl,.inl rfl⟩
theorem normOK_of_zero {a:List ByteArray} {s:ByteArray} (h:(normR a s).2.2=0):NormOK a s:=by
 rcases normR_cases a s with h1 | ⟨_,_,h2 | h2⟩
 ·exact h1
 ·rw [h] at h2;cases h2
 ·rw [h] at h2;cases h2
theorem no_zero {s:ByteArray}:decide (0≤Lib.indexByte s.data.toList 0)=false↔∀ b∈s.data.toList,b≠0:=by
 constructor
 ·intro h b hb
  rintro rfl
  obtain ⟨k,hk⟩:=List.mem_iff_getElem?.1 hb
  have h1:=of_decide_eq_false h
  have h2:=Lib.indexByte_ge s.data.toList 0
  exact Lib.indexByte_none (show Lib.indexByte s.data.toList 0 = -1 by omega) k hk
 ·intro h
  rw [decide_eq_false_iff_not]
  intro h1
  obtain ⟨o,ho⟩:∃ o:Nat,Lib.indexByte s.data.toList 0=o:=⟨(Lib.indexByte s.data.toList 0).toNat,by omega⟩
  exact h 0 (List.mem_of_getElem? (Lib.indexByte_some ho).1) rfl
theorem start_all {a:List ByteArray} (s:ByteArray) (h:∀ y∈a,nameB y.data.toList=true):∀ y∈startL a s,nameB y.data.toList=true:=by
 unfold startL
 split
 ·intro y hy;cases hy
 ·exact h
theorem norm_right {a:List ByteArray} {s:ByteArray} (h:NormOK a s):rightB ((partsL s).foldl stepAt (startL a s))=true:=by
 refine right_iff.2 ⟨h.fits,foldl_all _ _ (start_all s (right_iff.1 h.right).2) fun x hx=>⟨?_,fun b hb => ?_⟩⟩
 ·have:=List.any_eq_false.1 h.short x hx
  simpa using this
 ·have h1:=partsL_mem hx b hb
  exact ⟨h1.1,no_zero.1 h.zero b h1.2⟩
end
end Go.Proofs.YthlcjjhfkldmhaaGreatDoor.P
end
section
namespace Go.Proofs.YthlcjjhfkldmhaaGreatDoor.G
open Go.RowKit Go.Lib Go.Proofs.YthlcjjhfkldmhaaGreatDoorW.PrintWords Go.Proofs.YthlcjjhfkldmhaaGreatDoorW.PrintLast
set_option linter.unusedVariables false
set_option linter.unusedSimpArgs false
theorem wrongL_of {rec:File→List ByteArray→Option (List ByteArray)} {p:List ByteArray}:∀ {l:List File} {prev:Option ByteArray},SortedN l→(∀ y,prev=some y→∀ x∈l,lessB y x.name=true) →
  (∀ x∈l,nameB x.name.data.toList=true∧p.length+1≤64∧aloneB x=true∧rec x (p++[x.name])=none)→wrongL rec p prev l=none
 | [],prev,_,_,_=>by rw [wrongL]
 | x :: l,prev,hs,hp,hx=>by
  obtain ⟨h1,h2,h3,h4⟩:=hx x List.mem_cons_self
  have hb:badF prev (p++[x.name]) x=false:=by
   unfold badF
   have e:prevGe prev x.name=false:=by
    cases prev with
    | none=>rfl
    | some y =>
     have:=hp y rfl x List.mem_cons_self
     unfold lessB at this
     simp [prevGe,geB,this]
   have e2:decide (64<(p++[x.name]).length)=false:=by simp;omega
   rw [h1,e,e2,h3]
   rfl
  rw [wrongL,hb,h4]
  simp only [Bool.false_eq_true,if_false]
  have hc:=List.pairwise_cons.1 hs
  exact wrongL_of hc.2 (fun y hy z hz=>by injection hy with hy;subst hy;exact hc.1 z hz) fun z hz=>hx z (List.mem_cons_of_mem _ hz)
theorem bad_parts {pr:Option ByteArray} {q:List ByteArray} {x:File} (h:badF pr q x=false):nameB x.name.data.toList=true∧q.length≤64∧aloneB x=true:=by
 unfold badF at h
 simp only [Bool.or_eq_false_iff,Bool.not_eq_false',decide_eq_false_iff_not] at h
 exact ⟨h.1.1.1,by omega,h.2⟩
theorem wrongL_mem {rec:File→List ByteArray→Option (List ByteArray)} {p:List ByteArray} {l:List File} {prev:Option ByteArray} (h:wrongL rec p prev l=none) (x:File) (hx:x∈l):nameB x.name.data.toList=true∧p.length+1≤64∧aloneB x=true∧rec x (p++[x.name])=none:=by
 obtain ⟨⟨pr,h1⟩,h2⟩:=wrongL_all h x hx
 obtain ⟨h3,h4,h5⟩:=bad_parts h1
 exact ⟨h3,by simpa using h4,h5,h2⟩
theorem sorted_ins {l:List File} (hs:SortedN l) (x:File):SortedN (insF l x):=by
 unfold insF
 split
 ·rename_i hf
  obtain ⟨y,hy,hn⟩:∃ y,l[lowB l x.name]? = some y∧y.name=x.name:=by
   unfold foundB at hf
   split at hf
   ·rename_i y hy
    exact ⟨y,hy,toList_inj.1 (eq_of_beq hf)⟩
   ·cases hf
  obtain ⟨hlt,hy⟩:=List.getElem?_eq_some_iff.1 hy
  have e:l.take (lowB l x.name)++y :: l.drop (lowB l x.name+1)=l:=by
   rw [← hy,← List.drop_eq_getElem_cons hlt,List.take_append_drop]
  have hs2:SortedN (l.take (lowB l x.name)++y :: l.drop (lowB l x.name+1)):=by rw [e];exact hs
  unfold SortedN at hs2 ⊢
  rw [List.pairwise_append,List.pairwise_cons] at hs2 ⊢
  refine ⟨hs2.1,⟨fun z hz=>hn ▸ hs2.2.1.1 z hz,hs2.2.1.2⟩,fun a ha b hb => ?_⟩
  rcases List.mem_cons.1 hb with rfl | hb
  ·exact hn ▸ hs2.2.2 a ha y List.mem_cons_self
  ·exact hs2.2.2 a ha b (List.mem_cons_of_mem _ hb)
 ·rename_i hf
  have e:l.take (lowB l x.name)++l.drop (lowB l x.name)=l:=List.take_append_drop _ _
  have hs2:SortedN (l.take (lowB l x.name)++l.drop (lowB l x.name)):=by rw [e];exact hs
  unfold SortedN at hs2 ⊢
  rw [List.pairwise_append] at hs2
  have hlow:∀ a∈l.take (lowB l x.name),lessB a.name x.name=true:=low_less
  have hhigh:∀ b∈l.drop (lowB l x.name),lessB x.name b.name=true:=fun b hb=>by
   cases hd:l.drop (lowB l x.name) with
   | nil=>rw [hd] at hb;cases hb
   | cons y r =>
    have hy:l[lowB l x.name]? = some y:=by
     have:=congrArg (·[0]?) hd
     simpa using this
    have hny:lessB y.name x.name=false:=by
     have h2:=low_not hy
     exact h2
    have hne:y.name≠x.name:=fun e2=>hf (by unfold foundB;rw [hy];simp [e2])
    have h3:lessB x.name y.name=true:=less_total hny hne
    rw [hd] at hb
    rcases List.mem_cons.1 hb with rfl | hb
    ·exact h3
    ·have h4:(y :: r).Pairwise fun a b=>lessB a.name b.name=true:=hd ▸ hs2.2.1
     exact less_trans h3 ((List.pairwise_cons.1 h4).1 b hb)
  rw [List.pairwise_append,List.pairwise_cons]
  refine ⟨hs2.1,⟨hhigh,hs2.2.1⟩,fun a ha b hb => ?_⟩
  rcases List.mem_cons.1 hb with rfl | hb
  ·exact hlow a ha
  ·exact hs2.2.2 a ha b hb
theorem mem_ins {l:List File} {x y:File} (h:y∈insF l x):y=x∨y∈l:=by
 unfold insF at h
 split at h
 ·rcases List.mem_append.1 h with h | h
  ·exact .inr (List.mem_of_mem_take h)
  ·rcases List.mem_cons.1 h with h | h
   ·exact .inl h
   ·exact .inr (List.mem_of_mem_drop h)
 ·rcases List.mem_append.1 h with h | h
  ·exact .inr (List.mem_of_mem_take h)
  ·rcases List.mem_cons.1 h with h | h
   ·exact .inl h
   ·exact .inr (List.mem_of_mem_drop h)
theorem sorted_set {l:List File} (hs:SortedN l) {i:Nat} {x y:File} (hx:l[i]? = some x) (hy:y.name=x.name):SortedN (l.set i y):=by
 unfold SortedN at hs ⊢
 obtain ⟨hlt,hx⟩:=List.getElem?_eq_some_iff.1 hx
 rw [List.pairwise_iff_getElem] at hs ⊢
 intro a b ha hb hab
 rw [List.length_set] at ha hb
 have hn:∀ j (hj:j<l.length),((l.set i y)[j]'(by rw [List.length_set];exact hj)).name=l[j].name:=fun j hj=>by
  rw [List.getElem_set]
  split
  ·rename_i h
   subst h
   rw [hy,← hx]
  ·rfl
 rw [hn a ha,hn b hb]
 exact hs a b ha hb hab
theorem alone_put {x d y:File} {q:List ByteArray} {k:Int} (hg:goP x q=(k,some d)) (hk:y.kind=d.kind) (h1:d.kind=1) (hd:y.data=d.data):aloneB (putP x q y)=aloneB x:=by
 cases q with
 | nil =>
  rw [goP] at hg
  injection hg with _ hg
  injection hg with hg
  subst hg
  rw [putP]
  unfold aloneB
  rw [if_pos (hk.trans h1),if_pos h1,hd]
 | cons n q =>
  obtain ⟨e1,e2,e3⟩:=putP_keep x n q y
  have hx:x.kind=1:=by
   rw [goP] at hg
   split at hg
   ·assumption
   ·cases hg
  unfold aloneB
  rw [if_pos (e2.trans hx),if_pos hx,e3]
theorem wrong_at:∀ (q:List ByteArray) (n:Nat) (f d:File) (p:List ByteArray) (k:Int),f.bulk≤n→wrongN n f p=none→goP f q=(k,some d)→∃ m,d.bulk≤m∧wrongN m d (p++q)=none
 | [],n,f,d,p,k,hb,hw,hg=>by
  rw [goP] at hg
  injection hg with _ hg
  injection hg with hg
  subst hg
  exact ⟨n,hb,by rw [List.append_nil];exact hw⟩
 | a :: q,0,f,d,p,k,hb,hw,hg=>by have:=bulk_eq f;omega
 | a :: q,n+1,f,d,p,k,hb,hw,hg=>by
  obtain ⟨x,hx,hxn,hg2⟩:=goP_step hg
  have hm:=List.mem_of_getElem? hx
  rw [wrongN] at hw
  have h1:=(wrongL_mem hw x hm).2.2.2
  have h2:=bulk_child hm
  obtain ⟨m,h3,h4⟩:=wrong_at q n x d (p++[x.name]) k (by omega) h1 hg2
  exact ⟨m,h3,by rw [hxn] at h4;simpa using h4⟩
theorem put_wrong:∀ (q:List ByteArray) (n m:Nat) (f d y:File) (p:List ByteArray) (k:Int),f.bulk≤n→wrongN n f p=none→SortF f→goP f q=(k,some d)→y.name=d.name→y.kind=d.kind→y.data=d.data→d.kind=1→(∀ j,y.bulk≤j→wrongN j y (p++q)=none)→(putP f q y).bulk≤m→wrongN m (putP f q y) p=none
 | [],n,m,f,d,y,p,k,hb,hw,hs,hg,e1,e2,e3,h1,hy,hm=>by
  rw [putP] at hm ⊢
  have:=hy m hm
  rwa [List.append_nil] at this
 | a :: q,0,m,f,d,y,p,k,hb,hw,hs,hg,e1,e2,e3,h1,hy,hm=>by have:=bulk_eq f;omega
 | a :: q,n+1,0,f,d,y,p,k,hb,hw,hs,hg,e1,e2,e3,h1,hy,hm=>by have:=bulk_eq (putP f (a :: q) y);omega
 | a :: q,n+1,m+1,f,d,y,p,k,hb,hw,hs,hg,e1,e2,e3,h1,hy,hm=>by
  obtain ⟨x,hx,hxn,hg2⟩:=goP_step hg
  have hmem:=List.mem_of_getElem? hx
  have hpe:putP f (a :: q) y={f with files:=f.files.set (lowB f.files a) (putP x q y)}:=by rw [putP,hx]
  rw [hpe] at hm ⊢
  have hnm:(putP x q y).name=x.name:=putP_name q x y d k hg2 e1
  rw [wrongN] at hw ⊢
  rw [SortF_eq] at hs
  refine wrongL_of (sorted_set hs.1 hx hnm) (fun y hy=>by cases hy) fun z hz => ?_
  have hzb:=bulk_child (f:={f with files:=f.files.set (lowB f.files a) (putP x q y)}) hz
  rcases List.mem_or_eq_of_mem_set hz with h | rfl
  ·obtain ⟨g1,g2,g3,g4⟩:=wrongL_mem hw z h
   have:=bulk_child h
   exact ⟨g1,g2,g3,wrong_fuel n m z _ (by omega) (by omega) g4⟩
  ·obtain ⟨g1,g2,g3,g4⟩:=wrongL_mem hw x hmem
   have:=bulk_child hmem
   refine ⟨by rw [hnm];exact g1,g2,by rw [alone_put hg2 e2 h1 e3];exact g3,?_⟩
   rw [hnm]
   exact put_wrong q n m x d y (p++[x.name]) k (by omega) g4 (SortL_mem.1 hs.2 x hmem) hg2 e1 e2 e3 h1 (fun j hj=>by rw [hxn];simpa using hy j hj) (by omega)
theorem putP_head {t d y:File} {q:List ByteArray} {k:Int} (hg:goP t q=(k,some d)) (e1:y.name=d.name) (e2:y.kind=d.kind) (e3:y.data=d.data):(putP t q y).name=t.name∧(putP t q y).kind=t.kind∧(putP t q y).data=t.data:=by
 cases q with
 | nil =>
  rw [goP] at hg
  injection hg with _ hg
  injection hg with hg
  subst hg
  rw [putP]
  exact ⟨e1,e2,e3⟩
 | cons n q=>exact putP_keep t n q y
theorem right_turn {t d:File} {L:List File} {q:List ByteArray} (ht:rightT t=true) (hg:goP t q=(0,some d)) (hk:d.kind=1) (hs:SortedN L) (hL:∀ j,(File.mk d.name d.kind d.data L).bulk≤j+1→∀ x∈L,nameB x.name.data.toList=true∧q.length+1≤64∧aloneB x=true∧wrongN j x (q++[x.name])=none):rightT (putP t q {d with files:=L})=true:=by
 obtain ⟨hw,_⟩:=right_wrong ht
 have h2:=put_wrong q _ _ t d {d with files:=L} [] 0 (Nat.le_refl _) hw (right_sort ht) hg rfl rfl rfl hk (fun j hj=>by
  rw [List.nil_append]
  cases j with
  | zero=>have:=bulk_eq ({d with files:=L}:File);omega
  | succ j =>
   rw [wrongN]
   exact wrongL_of hs (fun y hy=>by cases hy) (hL j hj)) (Nat.le_refl _)
 obtain ⟨e1,e2,e3⟩:=putP_head (y:={d with files:=L}) hg rfl rfl rfl
 unfold rightT checkR at ht ⊢
 rw [e1,e2,e3]
 split at ht
 ·rename_i hc
  rw [if_pos hc,h2]
  rfl
 ·exact absurd ht (by decide)
theorem at_right {t d x:File} {q:List ByteArray} (ht:rightT t=true) (hg:goP t q=(0,some d)) (hx:x∈d.files):nameB x.name.data.toList=true∧q.length+1≤64∧aloneB x=true∧∀ j,x.bulk≤j→wrongN j x (q++[x.name])=none:=by
 obtain ⟨hw,_⟩:=right_wrong ht
 obtain ⟨m,h1,h2⟩:=wrong_at q _ t d [] 0 (Nat.le_refl _) hw hg
 rw [List.nil_append] at h2
 have hb:=bulk_child hx
 cases m with
 | zero=>have:=bulk_eq d;omega
 | succ m =>
  rw [wrongN] at h2
  obtain ⟨g1,g2,g3,g4⟩:=wrongL_mem h2 x hx
  exact ⟨g1,g2,g3,fun j hj=>wrong_fuel m j x _ (by omega) hj g4⟩
theorem put_goes {t d f:File} {q:List ByteArray} {n:ByteArray} (ht:rightT t=true) (hg:goP t q=(0,some d)) (hk:d.kind=1) (hn:nameB n.data.toList=true) (hl:q.length+1≤64) (ha:aloneB f=true) (hf:f.files=[]):(putR t q n f).2=0:=by
 unfold putR
 rw [if_pos ht,hg]
 simp only
 rw [if_pos hk,if_pos]
 have hsd:SortedN d.files:=by have:=go_sort q t d 0 (right_sort ht) hg;rw [SortF_eq] at this;exact this.1
 refine right_turn ht hg hk (sorted_ins hsd _) fun j hj x hx => ?_
 have hxb:=bulk_child (f:=File.mk d.name d.kind d.data (insF d.files (nameF f n))) hx
 rcases mem_ins hx with rfl | hx
 ·refine ⟨hn,hl,?_,?_⟩
  ·unfold aloneB at ha ⊢
   exact ha
  ·cases j with
   | zero=>rw [wrongN]
   | succ j =>
    rw [wrongN]
    show wrongL (wrongN j) _ none (nameF f n).files=none
    rw [show (nameF f n).files=[] from hf,wrongL]
 ·obtain ⟨g1,g2,g3,g4⟩:=at_right ht hg hx
  exact ⟨g1,g2,g3,g4 j (by omega)⟩
def NamesOk (l:List ByteArray):Prop:=∀ n∈l,nameB n.data.toList=true
theorem walkIn_names (last:Bool) (follow:Option (List ByteArray→WR)) (hf:∀ g,follow=some g→∀ todo,NamesOk todo→NamesOk (g todo).1) :
  ∀ (todo done:List ByteArray) (here:File),NamesOk todo→NamesOk done→NamesOk (walkIn last follow todo done here).1
 | [],done,here,_,hd=>by rw [walkIn];exact hd
 | n :: rest,done,here,ht,hd=>by
  have hn:=ht n List.mem_cons_self
  have hr:NamesOk rest:=fun x hx=>ht x (List.mem_cons_of_mem _ hx)
  have hdn:NamesOk (done++[n]):=fun x hx=>by
   rcases List.mem_append.1 hx with h | h
   ·exact hd x h
   ·rw [List.mem_singleton.1 h];exact hn
  have hnil:∀ k,NamesOk (badW k).1:=fun k x hx=>by cases hx
  rw [walkIn]
  split
  ·split
   ·split
    ·exact hdn
    ·exact hnil _
   ·rename_i x hx
    split
    ·split
     ·exact hnil _
     ·rename_i g
      split
      ·rename_i hz
       split
       ·refine hf g rfl _ fun y hy => ?_
        rcases List.mem_append.1 hy with h | h
        ·have hok:=P.normOK_of_zero hz
         have hrt:=P.norm_right hok
         have e:(P.normR done x.data).1=(P.partsL x.data).foldl P.stepAt (P.startL done x.data):=by rw [P.normR_of hok]
         rw [e] at h
         exact (P.right_iff.1 hrt).2 y h
        ·exact hr y h
       ·exact hnil _
      ·exact hnil _
    ·exact walkIn_names last follow hf rest (done++[n]) x hr hdn
  ·exact hnil _
theorem follow_names (t:File) (last:Bool):∀ (k:Nat) (g:List ByteArray→WR),followK t last k=some g→∀ todo,NamesOk todo→NamesOk (g todo).1
 | 0,g,h=>by simp [followK] at h
 | k+1,g,h=>by
  rw [followK] at h
  injection h with h
  subst h
  exact fun todo ht=>walkIn_names last _ (follow_names t last k) todo [] t ht (fun x hx=>by cases hx)
theorem walk_names (t:File) {p:List ByteArray} (hp:P.rightB p=true) (last:Bool):NamesOk (walkR t p last).1:=by
 unfold walkR
 split
 ·exact walkIn_names last _ (follow_names t last 40) p [] t (P.right_iff.1 hp).2 (fun x hx=>by cases hx)
 ·intro x hx
  cases hx
theorem go_dir {x e:File} {s:List ByteArray} (hg:goP x s=(0,some e)) (he:e.kind=1):x.kind=1:=by
 cases s with
 | nil =>
  rw [goP] at hg
  injection hg with _ hg
  injection hg with hg
  rw [hg]
  exact he
 | cons a s =>
  rw [goP] at hg
  split at hg
  ·assumption
  ·cases hg
theorem go_kept (L:List File):∀ (q0:List ByteArray) (t d e:File) (s:List ByteArray),SortF t→SortF (putP t q0 {d with files:=L})→goP t q0=(0,some d)→(∀ a x,d.files.find? (nameIs a)=some x→x.kind=1→L.find? (nameIs a)=some x)→goP t s=(0,some e)→e.kind=1→∃ e',goP (putP t q0 {d with files:=L}) s=(0,some e')∧e'.kind=1
 | [],t,d,e,s,hs,hs2,hg,hL,hgs,he=>by
  rw [goP] at hg
  injection hg with _ hg
  injection hg with hg
  subst hg
  rw [putP] at hs2 ⊢
  cases s with
  | nil =>
   have hk1:=go_dir hgs he
   refine ⟨_,go_nil _,?_⟩
   exact hk1
  | cons a s =>
   rw [goP_find hs] at hgs
   rw [goP_find hs2]
   split at hgs
   ·rename_i hk
    split at hgs
    ·rename_i x hx
     rw [if_pos hk,hL a x hx (go_dir hgs he)]
     exact ⟨e,hgs,he⟩
    ·cases hgs
   ·cases hgs
 | b :: q0,t,d,e,s,hs,hs2,hg,hL,hgs,he=>by
  obtain ⟨x,hx,hxn,hg2⟩:=goP_step hg
  have hmem:=List.mem_of_getElem? hx
  have hpe:putP t (b :: q0) {d with files:=L}={t with files:=t.files.set (lowB t.files b) (putP x q0 {d with files:=L})}:=by rw [putP,hx]
  rw [hpe] at hs2 ⊢
  have hnm:(putP x q0 {d with files:=L}).name=x.name:=putP_name q0 x {d with files:=L} d 0 hg2 rfl
  have hlt:=(List.getElem?_eq_some_iff.1 hx).1
  have hsx:SortF (putP x q0 {d with files:=L}):=by
   rw [SortF_eq] at hs2
   exact SortL_mem.1 hs2.2 _ (List.mem_iff_getElem.2 ⟨lowB t.files b,by rw [List.length_set];exact hlt,by simp⟩)
  have hsx0:SortF x:=by
   rw [SortF_eq] at hs
   exact SortL_mem.1 hs.2 x hmem
  cases s with
  | nil =>
   have hk1:=go_dir hgs he
   refine ⟨_,go_nil _,?_⟩
   exact hk1
  | cons a s =>
   by_cases hab:a=b
   ·subst hab
    obtain ⟨x',hx',hxn',hg3⟩:=goP_step hgs
    obtain rfl:x=x':=Option.some.inj (hx.symm.trans hx')
    obtain ⟨e',h1,h2⟩:=go_kept L q0 x d e s hsx0 hsx hg2 hL hg3 he
    refine ⟨e',?_,h2⟩
    have hk:t.kind=1:=by
     rw [goP] at hgs
     split at hgs
     ·assumption
     ·cases hgs
    have hlow:lowB (t.files.set (lowB t.files a) (putP x q0 {d with files:=L})) a=lowB t.files a:=low_name a (set_names hx hnm)
    rw [goP,if_pos hk]
    simp only [hlow]
    rw [List.getElem?_set_self hlt]
    simp only
    rw [if_pos (by rw [hnm,hxn];simp)]
    exact h1
   ·rw [goP_find hs] at hgs
    rw [goP_find hs2]
    have hf:=find_set (p:=nameIs a) (x':=putP x q0 {d with files:=L}) hx (nameIs_ne (by rw [hxn];exact fun h=>hab h.symm)) (nameIs_ne (by rw [hnm,hxn];exact fun h=>hab h.symm))
    rw [hf]
    exact ⟨e,hgs,he⟩
theorem find_del {l:List File} {n a:ByteArray} {y:File} (hy:l[lowB l n]? = some y) (hn:y.name=n) (ha:a≠n):(delF l n).find? (nameIs a)=l.find? (nameIs a):=by
 obtain ⟨hlt,hy⟩:=List.getElem?_eq_some_iff.1 hy
 have e:l=l.take (lowB l n)++y :: l.drop (lowB l n+1):=by rw [← hy,← List.drop_eq_getElem_cons hlt,List.take_append_drop]
 unfold delF
 rw [List.find?_append]
 conv=>rhs;rw [e]
 rw [List.find?_append,List.find?_cons,nameIs_ne (by rw [hn];exact fun h=>ha h.symm)]
theorem sorted_del {l:List File} (hs:SortedN l) (n:ByteArray):SortedN (delF l n):=by
 unfold delF SortedN at *
 have h:List.Sublist (l.take (lowB l n)++l.drop (lowB l n+1)) l:=by
  have h1:List.Sublist (l.drop (lowB l n+1)) (l.drop (lowB l n)):=by
   rw [← List.drop_drop]
   exact List.drop_sublist _ _
  have h2:=List.Sublist.append (List.Sublist.refl (l.take (lowB l n))) h1
  rwa [List.take_append_drop] at h2
 exact hs.sublist h
theorem mem_del {l:List File} {n:ByteArray} {x:File} (h:x∈delF l n):x∈l:=by
 unfold delF at h
 rcases List.mem_append.1 h with h | h
 ·exact List.mem_of_mem_take h
 ·exact List.mem_of_mem_drop h
theorem end_place {t:File} {p:List ByteArray} {last:Bool} (ht:rightT t=true) (hp:P.rightB p=true) (h0:(walkR t p last).2.2.2=0) (hnd:¬ ((walkR t p last).2.2.1=true∧(walkR t p last).2.1.kind=1)) :
  ∃ r0 m e,(walkR t p last).1=r0++[m]∧goP t r0=(0,some e)∧e.kind=1∧nameB m.data.toList=true∧r0.length+1≤64:=by
 have hn:=walk_names t hp last
 have hl:=((walk_sound t (right_wrong ht).2 p last).2 h0).1
 have hth:=walk_there t ht p last h0
 generalize walkR t p last=r at *
 obtain ⟨q,x,is,k⟩:=r
 simp only at *
 cases is with
 | true =>
  have hg:=hth.1 rfl
  rcases nil_or_snoc q with rfl | ⟨r0,m,rfl⟩
  ·rw [goP] at hg
   injection hg with _ hg
   injection hg with hg
   subst hg
   exact absurd ⟨rfl,(right_wrong ht).2⟩ hnd
  ·obtain ⟨e,h1,h2,_⟩:=go_split hg
   exact ⟨r0,m,e,rfl,h1,h2,hn m (by simp),by simpa using hl⟩
 | false =>
  obtain ⟨_,r0,m,e,rfl,h1,h2,_⟩:=hth.2 rfl
  exact ⟨r0,m,e,rfl,h1,h2,hn m (by simp),by simpa using hl⟩
theorem putA_goes {t f:File} {p:List ByteArray} {last:Bool} (ht:rightT t=true) (hp:P.rightB p=true) (h0:(walkR t p last).2.2.2=0) (hnd:¬ ((walkR t p last).2.2.1=true∧(walkR t p last).2.1.kind=1)) (ha:aloneB f=true) (hf:f.files=[]):(putA t (walkR t p last).1 f).2=0:=by
 obtain ⟨r0,m,e,h1,h2,h3,h4,h5⟩:=end_place ht hp h0 hnd
 rw [h1,putA_snoc]
 exact put_goes ht h2 h3 h4 h5 ha hf
theorem not_dir_files {x:File} (ha:aloneB x=true) (hk:x.kind≠1):x.files=[]:=by
 unfold aloneB at ha
 rw [if_neg hk] at ha
 split at ha
 ·exact List.length_eq_zero_iff.1 (of_decide_eq_true ha)
 ·split at ha
  ·rw [Bool.and_eq_true] at ha
   exact List.length_eq_zero_iff.1 (of_decide_eq_true ha.1)
  ·cases ha
theorem rename_goes {t y e:File} {q r0:List ByteArray} {m:ByteArray} (ht:rightT t=true) (hy:goP t q=(0,some y)) (hk:y.kind≠1) (hg:goP t r0=(0,some e)) (he:e.kind=1) (hn:nameB m.data.toList=true) (hl:r0.length+1≤64) :
  (dropA t q).2=0∧rightT (dropA t q).1=true∧(putA (dropA t q).1 (r0++[m]) y).2=0:=by
 rcases nil_or_snoc q with rfl | ⟨q0,n,rfl⟩
 ·rw [goP] at hy
  injection hy with _ hy
  injection hy with hy
  subst hy
  exact absurd (right_wrong ht).2 hk
 obtain ⟨d,h1,h2,h3,h4⟩:=go_split hy
 have hd:dropA t (q0++[n])=(putP t q0 {d with files:=delF d.files n},0):=by
  rw [dropA_snoc]
  unfold dropR
  rw [if_pos ht,hy,h1]
 rw [hd]
 have hsd:SortedN d.files:=by have:=go_sort q0 t d 0 (right_sort ht) h1;rw [SortF_eq] at this;exact this.1
 have hru:rightT (putP t q0 {d with files:=delF d.files n})=true:=by
  refine right_turn ht h1 h2 (sorted_del hsd n) fun j hj x hx => ?_
  have hxb:=bulk_child (f:=File.mk d.name d.kind d.data (delF d.files n)) hx
  obtain ⟨g1,g2,g3,g4⟩:=at_right ht h1 (mem_del hx)
  exact ⟨g1,g2,g3,g4 j (by omega)⟩
 obtain ⟨e',h5,h6⟩:=go_kept (delF d.files n) q0 t d e r0 (right_sort ht) (right_sort hru) h1 (fun a x hx hx1=>by
  have hlf:=low_find hsd n
  rw [h3] at hlf
  simp only [h4,beq_self_eq_true,if_true] at hlf
  have ha:a≠n:=fun ea=>by
   rw [ea,← hlf] at hx
   injection hx with hx
   exact hk (hx ▸ hx1)
  rw [find_del h3 h4 ha]
  exact hx) hg he
 have hym:=List.mem_of_getElem? h3
 obtain ⟨_,_,g3,_⟩:=at_right ht h1 hym
 refine ⟨rfl,hru,?_⟩
 rw [putA_snoc]
 exact put_goes hru h5 h6 hn hl g3 (not_dir_files g3 hk)
end Go.Proofs.YthlcjjhfkldmhaaGreatDoor.G
end
end
section
namespace Go.Proofs.YthlcjjhfkldmhaaGreatDoor.G
open Go.RowKit Go.Lib Go.Proofs.YthlcjjhfkldmhaaGreatDoorW.PrintWords Go.Proofs.YthlcjjhfkldmhaaGreatDoorW.PrintLast
set_option linter.unusedVariables false
set_option linter.unusedSimpArgs false
theorem walk_get {t:File} {p:List ByteArray} {last:Bool} (ht:rightT t=true) (h0:(walkR t p last).2.2.2=0):((walkR t p last).2.2.1=true→getR t (walkR t p last).1=((walkR t p last).2.1,0))∧((walkR t p last).2.2.1=false→(getR t (walkR t p last).1).2≠0):=by
 have hth:=walk_there t ht p last h0
 refine ⟨fun h=>get_of_go ht (hth.1 h),fun h => ?_⟩
 obtain ⟨_,q,n,d,e,h1,h2,h3⟩:=hth.2 h
 rw [e]
 have hs:=go_sort q t d 0 (right_sort ht) h1
 have hg:goP t (q++[n])=(31,none):=by rw [go_app q [n] t d h1,goP_find hs,if_pos h2,h3]
 unfold getR
 rw [if_pos ht,hg]
 show (31:Int)≠0
 decide
theorem text_alone (s:ByteArray):aloneB (textF s)=true:=by
 unfold aloneB textF
 simp
def rdoD (t:File) (x:Step):File×Told×Int :=
 if x.kind=1 then rdo1 t x.path x.dest x.data else if x.kind=2 then rdo2 t x.path x.dest x.data else if x.kind=3 then rdo3 t x.path x.dest x.data else if x.kind=4 then rdo4 t x.path x.dest x.data else rdo5 t x.path x.dest x.data
theorem rdo_plain {t:File} (ht:rightT t=true) (x:Step) (hx:oneOf x=true) (hp:P.rightB x.path=true) (hq:x.kind=5→P.rightB x.dest=true):rdoD t x=((opR x.kind t (reqOf x)).1,ansOf x.kind (opR x.kind t (reqOf x)).2):=by
 obtain ⟨k,p,q,d⟩:=x
 simp only at hp hq
 have hk:k=1∨k=2∨k=3∨k=4∨k=5:=by
  simp only [oneOf,decide_eq_true_iff] at hx
  omega
 have e0:(told0 ⟨#[]⟩:Told)=⟨0,0,⟨#[]⟩⟩:=rfl
 rcases hk with rfl | rfl | rfl | rfl | rfl
 ·show rdo1 t p q d=((lstatR t ⟨p,[],⟨#[]⟩⟩).1,ansOf 1 (lstatR t ⟨p,[],⟨#[]⟩⟩).2)
  unfold rdo1 lstatR
  simp only
  by_cases h0:(walkR t p false).2.2.2=0
  ·obtain ⟨w1,w2⟩:=walk_get ht h0
   rw [if_pos h0,if_pos h0]
   cases hi:(walkR t p false).2.2.1 with
   | true =>
    rw [w1 hi]
    rfl
   | false =>
    rw [if_neg (w2 hi)]
    rfl
  ·rw [if_neg h0,if_neg h0]
   rfl
 ·show rdo2 t p q d=((readV t ⟨p,[],⟨#[]⟩⟩).1,ansOf 2 (readV t ⟨p,[],⟨#[]⟩⟩).2)
  unfold rdo2 readV
  simp only
  by_cases h0:(walkR t p true).2.2.2=0
  ·obtain ⟨w1,w2⟩:=walk_get ht h0
   rw [if_pos h0,if_pos h0]
   cases hi:(walkR t p true).2.2.1 with
   | true =>
    rw [w1 hi,if_pos rfl,if_pos rfl]
    simp only
    split <;> rfl
   | false =>
    rw [if_neg (w2 hi)]
    rfl
  ·rw [if_neg h0,if_neg h0]
   rfl
 ·show rdo3 t p q d=((createR t ⟨p,[],⟨#[]⟩⟩).1,ansOf 3 (createR t ⟨p,[],⟨#[]⟩⟩).2)
  unfold rdo3 createR
  simp only
  by_cases h0:(walkR t p true).2.2.2=0
  ·obtain ⟨w1,w2⟩:=walk_get ht h0
   rw [if_pos h0,if_pos h0]
   by_cases hd:(walkR t p true).2.2.1=true∧(walkR t p true).2.1.kind=1
   ·rw [if_pos hd,w1 hd.1,if_pos ⟨rfl,hd.2⟩]
    rfl
   ·have hn:¬ ((getR t (walkR t p true).1).2=0∧(getR t (walkR t p true).1).1.kind=1):=fun h=>by
     cases hi:(walkR t p true).2.2.1 with
     | true =>
      rw [w1 hi] at h
      exact hd ⟨hi,h.2⟩
     | false=>exact w2 hi h.1
    have hg:=putA_goes (f:=textF ⟨#[]⟩) ht hp h0 hd (text_alone _) rfl
    rw [if_neg hd,if_neg hn]
    unfold putV
    rw [if_pos hg,hg]
    rfl
  ·rw [if_neg h0,if_neg h0]
   rfl
 ·show rdo4 t p q d=((appendR t ⟨p,[],d⟩).1,ansOf 4 (appendR t ⟨p,[],d⟩).2)
  unfold rdo4 appendR
  simp only
  by_cases h0:(walkR t p true).2.2.2=0
  ·obtain ⟨w1,w2⟩:=walk_get ht h0
   rw [if_pos h0,if_pos h0]
   cases hi:(walkR t p true).2.2.1 with
   | true =>
    rw [w1 hi,if_pos rfl,if_pos rfl]
    simp only
    by_cases hd:(walkR t p true).2.1.kind=1
    ·rw [if_pos hd,if_pos hd]
     rfl
    ·have hg:=putA_goes (f:=textF ((walkR t p true).2.1.data++d)) ht hp h0 (fun h=>hd h.2) (text_alone _) rfl
     rw [if_neg hd,if_neg hd]
     unfold putV
     rw [if_pos hg,hg]
     rfl
   | false =>
    rw [if_neg (w2 hi)]
    rfl
  ·rw [if_neg h0,if_neg h0]
   rfl
 ·show rdo5 t p q d=((renameR t ⟨p,q,⟨#[]⟩⟩).1,ansOf 5 (renameR t ⟨p,q,⟨#[]⟩⟩).2)
  have hq:=hq rfl
  unfold rdo5 renameR
  simp only
  by_cases h0:(walkR t p false).2.2.2=0
  ·obtain ⟨w1,w2⟩:=walk_get ht h0
   rw [if_pos h0,if_pos h0]
   cases hi:(walkR t p false).2.2.1 with
   | true =>
    have hth:=(walk_there t ht p false h0).1 hi
    rw [w1 hi,if_pos rfl,if_pos rfl]
    simp only
    by_cases hd:(walkR t p false).2.1.kind=1
    ·rw [if_pos hd,if_pos hd]
     rfl
    rw [if_neg hd,if_neg hd]
    by_cases h1:(walkR t q false).2.2.2=0
    ·obtain ⟨v1,v2⟩:=walk_get ht h1
     rw [if_pos h1,if_pos h1]
     by_cases hd2:(walkR t q false).2.2.1=true∧(walkR t q false).2.1.kind=1
     ·rw [if_pos hd2,v1 hd2.1,if_pos ⟨rfl,hd2.2⟩]
      rfl
     ·have hn:¬ ((getR t (walkR t q false).1).2=0∧(getR t (walkR t q false).1).1.kind=1):=fun h=>by
       cases hj:(walkR t q false).2.2.1 with
       | true =>
        rw [v1 hj] at h
        exact hd2 ⟨hj,h.2⟩
       | false=>exact v2 hj h.1
      rw [if_neg hd2,if_neg hn]
      by_cases he:(walkR t p false).1=(walkR t q false).1
      ·rw [if_pos he,if_pos (show P.sameB _ _=true from decide_eq_true he)]
       rfl
      ·rw [if_neg he,if_neg (show ¬ P.sameB _ _=true from fun h=>he (of_decide_eq_true h))]
       obtain ⟨r0,m,e,g1,g2,g3,g4,g5⟩:=end_place ht hq h1 hd2
       obtain ⟨k1,k2,k3⟩:=rename_goes ht hth hd g2 g3 g4 g5
       rw [← g1] at k3
       rw [if_pos k1,if_pos k3]
       rfl
    ·rw [if_neg h1,if_neg h1]
     rfl
   | false =>
    rw [if_neg (w2 hi)]
    rfl
  ·rw [if_neg h0,if_neg h0]
   rfl
def fitR (x:Step):Prop:=P.rightB x.path=true∧(x.kind=5→P.rightB x.dest=true)
theorem fitR_req {x:Step}:fitR x↔(P.rightB (reqOf x).p=true∧P.rightB (reqOf x).dest=true):=by
 have hn:P.rightB []=true:=by decide
 unfold fitR reqOf
 simp only
 by_cases h:x.kind=5
 ·rw [if_pos h]
  exact ⟨fun a=>⟨a.1,a.2 h⟩,fun a=>⟨a.1,fun _=>a.2⟩⟩
 ·rw [if_neg h]
  exact ⟨fun a=>⟨a.1,hn⟩,fun a=>⟨a.1,fun e=>absurd e h⟩⟩
theorem doV_unfit {f:FsV} {x:Step} (hx:oneOf x=true) (h:¬ fitR x):doV f x=(f,told0 ⟨#[]⟩,20):=by
 obtain ⟨h1,h2⟩:=do_call f x hx
 have h3:callV f x.kind (reqOf x)=(f,told0 (reqOf x).data,20):=by
  unfold callV
  rw [if_neg (fun a=>h (fitR_req.2 a))]
 rw [h3] at h1 h2
 refine Prod.ext h1 (h2.trans ?_)
 unfold ansOf
 simp only [told0]
 split
 ·rfl
 ·split <;> rename_i hk2
  ·have:(reqOf x).data=⟨#[]⟩:=by unfold reqOf;simp [hk2]
   rw [this]
  ·rfl
theorem doV_fault {f:FsV} {x:Step} (hx:oneOf x=true) (h:fitR x) (hf:(f.trace.length:Int)∈f.faults):doV f x=({f with trace:=f.trace++[⟨x.kind,x.path,if x.kind=5 then x.dest else [],42⟩]},told0 ⟨#[]⟩,42):=by
 obtain ⟨h1,h2⟩:=do_call f x hx
 have h3:callV f x.kind (reqOf x)=({f with trace:=f.trace++[⟨x.kind,x.path,if x.kind=5 then x.dest else [],42⟩]},told0 (reqOf x).data,42):=by
  unfold callV
  rw [if_pos (fitR_req.1 h),if_pos hf]
  refine Prod.ext ?_ rfl
  show FsV.mk _ _ _=FsV.mk _ _ _
  congr 4
  unfold reqOf
  by_cases h5:x.kind=5
  ·simp only [if_pos h5]
  ·simp only [if_neg h5]
 rw [h3] at h1 h2
 refine Prod.ext h1 (h2.trans ?_)
 unfold ansOf
 simp only [told0]
 split
 ·rfl
 ·split <;> rename_i hk2
  ·have:(reqOf x).data=⟨#[]⟩:=by unfold reqOf;simp [hk2]
   rw [this]
  ·rfl
theorem doV_fit {f:FsV} {x:Step} (ht:rightT f.tree=true) (hx:oneOf x=true) (h:fitR x) (hf:¬ (f.trace.length:Int)∈f.faults):doV f x=(⟨(rdoD f.tree x).1,f.trace++[⟨x.kind,x.path,if x.kind=5 then x.dest else [],(rdoD f.tree x).2.2⟩],f.faults⟩,(rdoD f.tree x).2.1,(rdoD f.tree x).2.2):=by
 obtain ⟨h1,h2⟩:=do_call f x hx
 have hp:=rdo_plain ht x hx h.1 h.2
 have h3:callV f x.kind (reqOf x)=(⟨(opR x.kind f.tree (reqOf x)).1,f.trace++[⟨x.kind,x.path,if x.kind=5 then x.dest else [],(opR x.kind f.tree (reqOf x)).2.2⟩],f.faults⟩,(opR x.kind f.tree (reqOf x)).2.1,(opR x.kind f.tree (reqOf x)).2.2):=by
  unfold callV
  rw [if_pos (fitR_req.1 h),if_neg hf]
  refine Prod.ext ?_ rfl
  show FsV.mk _ _ _=FsV.mk _ _ _
  congr 4
  unfold reqOf
  by_cases h5:x.kind=5
  ·simp only [if_pos h5]
  ·simp only [if_neg h5]
 rw [h3] at h1 h2
 rw [hp]
 exact Prod.ext h1 h2
theorem rdoD_calls (t:File) (A:Option Addr) (c:Nat) (x:Step) (hx:oneOf x=true) (A1 B1:Option Addr) (c1 d1:Nat) (w:World) (ht:FileK.C w A t.files.length t.files) (hc:t.files.length≤c) (hbt:t.bulk≤100000000) (hr:rightT t=true) (hp:Kd.C Kd.string w A1 x.path.length x.path) (hc1:x.path.length≤c1) (hps:P.sumP x.path≤100000000) (hpn:∀ b,∀ n∈(walkR t x.path b).1,n.size≤100000000) (hq:Kd.C Kd.string w B1 x.dest.length x.dest) (hd1:x.dest.length≤d1) (hqs:P.sumP x.dest≤100000000) (hqn:∀ n∈(walkR t x.dest false).1,n.size≤100000000) (hxd:x.data.size≤100000000) :
  Calls Tryz.prog 31 #[fileV t A c,.agg #[.int .u8 x.kind,.slice A1 x.path.length c1,.slice B1 x.dest.length d1,.string x.data]] w fun e w'=>∃ A' c',e=.returned (.tuple #[.agg #[.string (rdoD t x).1.name,.int .u8 (rdoD t x).1.kind,.string (rdoD t x).1.data,.slice A' (rdoD t x).1.files.length c'],.agg #[.int .u8 (rdoD t x).2.1.kind,.int .i64 (rdoD t x).2.1.size,.string (rdoD t x).2.1.data],.int .i64 (rdoD t x).2.2])∧(rdoD t x).1.files.length≤c'∧(∀ W':World,FileK.C W' A t.files.length t.files→(∀ k,w.heap.size≤k→k<w'.heap.size→W'.heap[k]? = w'.heap[k]?)→FileK.C W' A' (rdoD t x).1.files.length (rdoD t x).1.files)∧Below w.heap.size w w':=by
 obtain ⟨k,p,q,d⟩:=x
 have hk:k=1∨k=2∨k=3∨k=4∨k=5:=by
  simp only [oneOf,decide_eq_true_iff] at hx
  omega
 rcases hk with rfl | rfl | rfl | rfl | rfl
 ·exact rdo1_calls t A c p q d A1 B1 c1 d1 w ht hc hbt hr hp hc1 hps (hpn false) hq hd1 hqs hqn hxd
 ·exact rdo2_calls t A c p q d A1 B1 c1 d1 w ht hc hbt hr hp hc1 hps (hpn true) hq hd1 hqs hqn hxd
 ·exact rdo3_calls t A c p q d A1 B1 c1 d1 w ht hc hbt hr hp hc1 hps (hpn true) hq hd1 hqs hqn hxd
 ·exact rdo4_calls t A c p q d A1 B1 c1 d1 w ht hc hbt hr hp hc1 hps (hpn true) hq hd1 hqs hqn hxd
 ·exact rdo5_calls t A c p q d A1 B1 c1 d1 w ht hc hbt hr hp hc1 hps (hpn false) hq hd1 hqs hqn hxd
end Go.Proofs.YthlcjjhfkldmhaaGreatDoor.G
end
end
end
