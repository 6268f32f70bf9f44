import Derived.Test.YthlcjjhfkldmhaaGreatDoorKit
import Derived.Test.YthlcjjhfkldmhaaGreatDoorVFrame
import Derived.Test.YthlcjjhfkldmhaaGreatDoorVMem
import Derived.Test.YthlcjjhfkldmhaaGreatDoorVNew
set_option linter.unusedVariables false
set_option linter.unusedSimpArgs false
section
namespace Go.Proofs.YthlcjjhfkldmhaaGreatDoor.G
open Go.RowKit Go.Lib Go.Proofs.YthlcjjhfkldmhaaGreatDoorW.PrintWords Go.Proofs.YthlcjjhfkldmhaaGreatDoorW.PrintLast
set_option linter.unusedVariables false
set_option linter.unusedSimpArgs false
def doV (f:FsV) (x:Step):FsV×Told×Int :=
 if x.kind=1 then ((callV f 1 ⟨x.path,[],⟨#[]⟩⟩).1,⟨(callV f 1 ⟨x.path,[],⟨#[]⟩⟩).2.1.kind,(callV f 1 ⟨x.path,[],⟨#[]⟩⟩).2.1.size,⟨#[]⟩⟩,(callV f 1 ⟨x.path,[],⟨#[]⟩⟩).2.2)
 else if x.kind=2 then ((callV f 2 ⟨x.path,[],⟨#[]⟩⟩).1,told0 (callV f 2 ⟨x.path,[],⟨#[]⟩⟩).2.1.data,(callV f 2 ⟨x.path,[],⟨#[]⟩⟩).2.2)
 else if x.kind=3 then ((callV f 3 ⟨x.path,[],⟨#[]⟩⟩).1,told0 ⟨#[]⟩,(callV f 3 ⟨x.path,[],⟨#[]⟩⟩).2.2)
 else if x.kind=4 then ((callV f 4 ⟨x.path,[],x.data⟩).1,told0 ⟨#[]⟩,(callV f 4 ⟨x.path,[],x.data⟩).2.2)
 else if x.kind=5 then ((callV f 5 ⟨x.path,x.dest,⟨#[]⟩⟩).1,told0 ⟨#[]⟩,(callV f 5 ⟨x.path,x.dest,⟨#[]⟩⟩).2.2)
 else (f,told0 ⟨#[]⟩,0)
def FsMid (w W:World) (g:Nat) (O:Nat→Prop) (tb:Option Nat) (f':FsV) (w1:World):Prop :=
 (∃ tb',(tb'=tb∨∃ j,tb'=some j∧W.heap.size≤j)∧FsAt w1 g (fun k=>O k∨W.heap.size≤k∧k<w1.heap.size) tb' f')∧Only (fun k=>k=g∨tb=some k∨w.heap.size≤k) W w1
theorem FsPost.mid {w W w1:World} {g:Nat} {O:Nat→Prop} {tb:Option Nat} {f':FsV} (h:FsPost W g O tb f' w1):FsMid w W g O tb f' w1:=⟨h.1,h.2.mono fun k _ hk=>hk.imp id .inl⟩
theorem FsMid.put {w W w1:World} {g:Nat} {O:Nat→Prop} {tb:Option Nat} {f':FsV} (h:FsMid w W g O tb f' w1) {p:Addr} (hk:w.heap.size≤p.block) (hl:p.block<W.heap.size) (hg:g<w.heap.size) (hO:∀ k,O k→k<w.heap.size) (v:Value):FsMid w W g O tb f' (w1.setCell p v):=by
 obtain ⟨⟨tb',h1,h2⟩,h3⟩:=h
 have hz:(w1.setCell p v).heap.size=w1.heap.size:=by simp [World.setCell]
 refine ⟨⟨tb',h1,?_⟩,h3.trans (Only.setCell w1 p v) (fun _ _ h=>h) (fun k _ h=>.inr (.inr (by omega)))⟩
 rw [hz]
 exact h2.keep (fun k hk'=>Below.heap_setCell _ _ _ _ (by rcases hk' with h | h | h;(· omega);(· have:=hO k h;omega);(· omega))) (by omega)
theorem FsMid.done {w W w1:World} {g:Nat} {O:Nat→Prop} {tb:Option Nat} {f f':FsV} (h:FsMid w W g O tb f' w1) (hfs:FsAt w g O tb f) (hb:Below w.heap.size w W):FsPost w g O tb f' w1:=by
 obtain ⟨⟨tb',h1,h2⟩,h3⟩:=h
 exact fsPost_lift hfs hb (fun k hk h=>by rcases h with h | h | h;(· exact .inl h);(· exact .inr h);(· omega)) h1 h2 h3
theorem tb_lt {w:World} {g:Nat} {O:Nat→Prop} {tb:Option Nat} {f:FsV} (h:FsAt w g O tb f):∀ k,tb=some k→k<w.heap.size:=by
 obtain ⟨A,c,v,m,lo,hi,_,_,_,_,h5,h6,_⟩:=h
 exact fun k e=>Kd.R_lt h5 k (h6.trans e)
theorem boxes3 (w:World) (a b c:Array Value) (t u v:TypeId):(((w.alloc (.cells a t)).alloc (.cells b u)).alloc (.cells c v)).heap[w.heap.size]? = some (.cells a t (0,0))∧(((w.alloc (.cells a t)).alloc (.cells b u)).alloc (.cells c v)).heap[w.heap.size+1]? = some (.cells b u (0,0))∧(((w.alloc (.cells a t)).alloc (.cells b u)).alloc (.cells c v)).heap[w.heap.size+2]? = some (.cells c v (0,0)):=by
 have h:=two_boxes w a b t u
 have h3:=blk_new ((w.alloc (.cells a t)).alloc (.cells b u)) (.cells c v)
 have hs:((w.alloc (.cells a t)).alloc (.cells b u)).heap.size=w.heap.size+2:=by simp
 rw [hs] at h3
 exact ⟨(Below.heap_alloc _ _ _ (by rw [hs];omega)).trans h.1,(Below.heap_alloc _ _ _ (by rw [hs];omega)).trans h.2,h3⟩
set_option maxHeartbeats 8000000 in
set_option maxRecDepth 100000 in
theorem do_calls (w:World) (g:Nat) (O:Nat→Prop) (tb:Option Nat) (f:FsV) (hfs:FsAt w g O tb f) (hgO:¬ O g) (hbt:f.tree.bulk≤100000000) (htl:f.trace.length≤2000000) (x:Step) (A B:Option Addr) (c d:Nat) (HP:PathAt w g tb A x.path) (hc:x.path.length≤c) (hpB:P.sumP x.path≤1099511627776) (HQ:PathAt w g tb B x.dest) (hd:x.dest.length≤d) (hqB:P.sumP x.dest≤1099511627776) (hdb:x.data.size≤100000000) :
  Calls Tryz.prog 9 #[.pointer (some ⟨g,0,none⟩),.agg #[.int .u8 x.kind,.slice A x.path.length c,.slice B x.dest.length d,.string x.data]] w fun e w'=>e=.returned (.tuple #[.agg #[.int .u8 (doV f x).2.1.kind,.int .i64 (doV f x).2.1.size,.string (doV f x).2.1.data],.int .i64 (doV f x).2.2])∧FsPost w g O tb (doV f x).1 w':=by
 have h3:=boxes3 w #[.int .u8 x.kind,.slice A x.path.length c,.slice B x.dest.length d,.string x.data] #[.int .u8 0,.int .i64 0,.string ⟨#[]⟩] #[.int .u8 0,.int .i64 0,.string ⟨#[]⟩] 42 46 46
 have hb0:=(((Below.refl w.heap.size w).alloc (Nat.le_refl _) (.cells #[.int .u8 x.kind,.slice A x.path.length c,.slice B x.dest.length d,.string x.data] 42)).alloc (by simp) (.cells #[.int .u8 0,.int .i64 0,.string ⟨#[]⟩] 46)).alloc (by simp;omega) (.cells #[.int .u8 0,.int .i64 0,.string ⟨#[]⟩] 46)
 have hgl:=hfs.lt
 have hlts:=hfs.lts
 have htbl:=tb_lt hfs
 have HFS:=Lib.hid hfs
 have HF0:=Lib.hid (hfs.below hb0)
 have HP0:=Lib.hid (Kd.F_below HP hb0)
 have HQ0:=Lib.hid (Kd.F_below HQ hb0)
 have hs0:(((w.alloc (.cells #[.int .u8 x.kind,.slice A x.path.length c,.slice B x.dest.length d,.string x.data] 42)).alloc (.cells #[.int .u8 0,.int .i64 0,.string ⟨#[]⟩] 46)).alloc (.cells #[.int .u8 0,.int .i64 0,.string ⟨#[]⟩] 46)).heap.size=w.heap.size+3:=by simp
 have HB0:=Lib.hid hb0
 have H0:=Lib.hid h3.1
 have H1:=Lib.hid h3.2.1
 have H2:=Lib.hid h3.2.2
 clear hfs hb0 h3 HP HQ
 have hkk:x.kind=1∨x.kind=2∨x.kind=3∨x.kind=4∨x.kind=5∨(x.kind≠1∧x.kind≠2∧x.kind≠3∧x.kind≠4∧x.kind≠5):=by omega
 go_enter Tryz.func9,Tryz.ntmps9
 obtain ⟨l0,l1,l2,l3⟩:=c4A H0.out
 rcases hkk with hk | hk | hk | hk | hk | ⟨k1,k2,k3,k4,k5⟩
 ·skip
  have b1:(x.kind == 1)=true:=beq_iff_eq.2 hk
  obtain ⟨⟨f1,tl,wy⟩,hcv⟩:∃ r,callV f 1 ⟨x.path,[],⟨#[]⟩⟩=r:=⟨_,rfl⟩
  have HD:=Lib.hid (show doV f x=(f1,⟨tl.kind,tl.size,⟨#[]⟩⟩,wy) from by
   unfold doV
   rw [if_pos hk]
   rw [hcv])
  have HCV:=Lib.hid hcv
  rw [HD.out]
  clear hk hcv
  go_wp2_with fail
  generalize (((w.alloc (.cells #[.int .u8 x.kind,.slice A x.path.length c,.slice B x.dest.length d,.string x.data] 42)).alloc (.cells #[.int .u8 0,.int .i64 0,.string ⟨#[]⟩] 46)).alloc (.cells #[.int .u8 0,.int .i64 0,.string ⟨#[]⟩] 46))=W0 at *
  have hc1:=lstat_api W0 g O tb f HF0.out hgO hbt htl A c x.path HP0.out hc hpB
  rw [show callV f 1 ⟨x.path,[],⟨#[]⟩⟩=(f1,tl,wy) from HCV.out] at hc1
  refine hc1.mono ?_
  clear hc1
  rintro e w1 ⟨rfl,hp1⟩
  have HP1:=Lib.hid (FsPost.mid (w:=w) hp1)
  have hk1:∀ j,w.heap.size≤j→j<W0.heap.size→w1.heap[j]? = W0.heap[j]? := fun j h1 h2=>hp1.2.block j h2 fun h=>by
   rcases h with h | h
   ·omega
   ·have:=htbl j h;omega
  have H11:=Lib.hid ((hk1 (w.heap.size+1) (by omega) (by omega)).trans H1.out)
  have H12:=Lib.hid ((hk1 (w.heap.size+2) (by omega) (by omega)).trans H2.out)
  clear hp1 hk1 l0 l1 l2 l3
  have e0:=cell_of (j:=0) H12.out rfl
  have g0:=unfr H12.out 0
  have n0:=cell_of (j:=0) H11.out rfl
  have m0:=unfr H11.out 0
  have e1:=cell_of (j:=1) H12.out rfl
  have g1:=unfr H12.out 1
  have n1:=cell_of (j:=1) H11.out rfl
  have m1:=unfr H11.out 1
  have e2:=cell_of (j:=2) H12.out rfl
  have g2:=unfr H12.out 2
  have n2:=cell_of (j:=2) H11.out rfl
  have m2:=unfr H11.out 2
  have H22:=Lib.hid (blk_put (blk_put H12.out 0 (.int .u8 tl.kind) rfl) 1 (.int .i64 tl.size) rfl)
  have H21:=Lib.hid ((Below.heap_setCell (w1.setCell ⟨w.heap.size+2,0,none⟩ (.int .u8 tl.kind)) ⟨w.heap.size+2,1,none⟩ (.int .i64 tl.size) (w.heap.size+1) (by simp only;omega)).trans ((Below.heap_setCell w1 ⟨w.heap.size+2,0,none⟩ (.int .u8 tl.kind) (w.heap.size+1) (by simp only;omega)).trans H11.out))
  have HM2:=Lib.hid ((HP1.out.put (p:=⟨w.heap.size+2,0,none⟩) (by simp only;omega) (by simp only;omega) hgl hlts (.int .u8 tl.kind)).put (p:=⟨w.heap.size+2,1,none⟩) (by simp only;omega) (by simp only;omega) hgl hlts (.int .i64 tl.size))
  obtain ⟨W2,hW2⟩:∃ W,((w1.setCell ⟨w.heap.size+2,0,none⟩ (.int .u8 tl.kind)).setCell ⟨w.heap.size+2,1,none⟩ (.int .i64 tl.size))=W:=⟨_,rfl⟩
  rw [hW2] at H22 H21 HM2
  have e02:=cell_of (j:=0) H22.out rfl
  have n02:=cell_of (j:=0) H21.out rfl
  have m02:=unfr H21.out 0
  have e12:=cell_of (j:=1) H22.out rfl
  have n12:=cell_of (j:=1) H21.out rfl
  have m12:=unfr H21.out 1
  have e22:=cell_of (j:=2) H22.out rfl
  have n22:=cell_of (j:=2) H21.out rfl
  have m22:=unfr H21.out 2
  go_wp2_with fail
  refine bodyPost_ret (results_ct rfl _ _ (w.heap.size+1) 46 #[.int .u8 tl.kind,.int .i64 tl.size,.string ⟨#[]⟩] (0,0) _ rfl (blk_put (blk_put (blk_put H21.out 0 (.int .u8 tl.kind) rfl) 1 (.int .i64 tl.size) rfl) 2 (.string ⟨#[]⟩) rfl) Tryz.underlying46 rfl (by kernel_rfl)) rfl ?_
  exact ⟨rfl,FsMid.done (((HM2.out.put (p:=⟨w.heap.size+1,0,none⟩) (by simp only;omega) (by simp only;omega) hgl hlts (.int .u8 tl.kind)).put (p:=⟨w.heap.size+1,1,none⟩) (by simp only;omega) (by simp only;omega) hgl hlts (.int .i64 tl.size)).put (p:=⟨w.heap.size+1,2,none⟩) (by simp only;omega) (by simp only;omega) hgl hlts (.string ⟨#[]⟩)) HFS.out HB0.out⟩
 ·skip
  have b1:(x.kind == 1)=false:=beq_eq_false_iff_ne.2 (by omega)
  have b2:(x.kind == 2)=true:=beq_iff_eq.2 hk
  obtain ⟨⟨f1,tl,wy⟩,hcv⟩:∃ r,callV f 2 ⟨x.path,[],⟨#[]⟩⟩=r:=⟨_,rfl⟩
  have HD:=Lib.hid (show doV f x=(f1,told0 tl.data,wy) from by
   unfold doV
   rw [if_neg (by omega)]
   rw [if_pos hk]
   rw [hcv])
  have HCV:=Lib.hid hcv
  rw [HD.out]
  clear hk hcv
  go_wp2_with fail
  generalize (((w.alloc (.cells #[.int .u8 x.kind,.slice A x.path.length c,.slice B x.dest.length d,.string x.data] 42)).alloc (.cells #[.int .u8 0,.int .i64 0,.string ⟨#[]⟩] 46)).alloc (.cells #[.int .u8 0,.int .i64 0,.string ⟨#[]⟩] 46))=W0 at *
  have hc1:=read_api W0 g O tb f HF0.out hgO hbt htl A c x.path HP0.out hc hpB
  rw [show callV f 2 ⟨x.path,[],⟨#[]⟩⟩=(f1,tl,wy) from HCV.out] at hc1
  refine hc1.mono ?_
  clear hc1
  rintro e w1 ⟨rfl,hp1⟩
  have HP1:=Lib.hid (FsPost.mid (w:=w) hp1)
  have hk1:∀ j,w.heap.size≤j→j<W0.heap.size→w1.heap[j]? = W0.heap[j]? := fun j h1 h2=>hp1.2.block j h2 fun h=>by
   rcases h with h | h
   ·omega
   ·have:=htbl j h;omega
  have H11:=Lib.hid ((hk1 (w.heap.size+1) (by omega) (by omega)).trans H1.out)
  have H12:=Lib.hid ((hk1 (w.heap.size+2) (by omega) (by omega)).trans H2.out)
  clear hp1 hk1 l0 l1 l2 l3
  have e0:=cell_of (j:=0) H12.out rfl
  have g0:=unfr H12.out 0
  have n0:=cell_of (j:=0) H11.out rfl
  have m0:=unfr H11.out 0
  have e1:=cell_of (j:=1) H12.out rfl
  have g1:=unfr H12.out 1
  have n1:=cell_of (j:=1) H11.out rfl
  have m1:=unfr H11.out 1
  have e2:=cell_of (j:=2) H12.out rfl
  have g2:=unfr H12.out 2
  have n2:=cell_of (j:=2) H11.out rfl
  have m2:=unfr H11.out 2
  have H22:=Lib.hid (blk_put H12.out 2 (.string tl.data) rfl)
  have H21:=Lib.hid ((Below.heap_setCell w1 ⟨w.heap.size+2,2,none⟩ (.string tl.data) (w.heap.size+1) (by simp only;omega)).trans H11.out)
  have HM2:=Lib.hid (HP1.out.put (p:=⟨w.heap.size+2,2,none⟩) (by simp only;omega) (by simp only;omega) hgl hlts (.string tl.data))
  obtain ⟨W2,hW2⟩:∃ W,(w1.setCell ⟨w.heap.size+2,2,none⟩ (.string tl.data))=W:=⟨_,rfl⟩
  rw [hW2] at H22 H21 HM2
  have e02:=cell_of (j:=0) H22.out rfl
  have n02:=cell_of (j:=0) H21.out rfl
  have m02:=unfr H21.out 0
  have e12:=cell_of (j:=1) H22.out rfl
  have n12:=cell_of (j:=1) H21.out rfl
  have m12:=unfr H21.out 1
  have e22:=cell_of (j:=2) H22.out rfl
  have n22:=cell_of (j:=2) H21.out rfl
  have m22:=unfr H21.out 2
  go_wp2_with fail
  refine bodyPost_ret (results_ct rfl _ _ (w.heap.size+1) 46 #[.int .u8 0,.int .i64 0,.string tl.data] (0,0) _ rfl (blk_put (blk_put (blk_put H21.out 0 (.int .u8 0) rfl) 1 (.int .i64 0) rfl) 2 (.string tl.data) rfl) Tryz.underlying46 rfl (by kernel_rfl)) rfl ?_
  exact ⟨rfl,FsMid.done (((HM2.out.put (p:=⟨w.heap.size+1,0,none⟩) (by simp only;omega) (by simp only;omega) hgl hlts (.int .u8 0)).put (p:=⟨w.heap.size+1,1,none⟩) (by simp only;omega) (by simp only;omega) hgl hlts (.int .i64 0)).put (p:=⟨w.heap.size+1,2,none⟩) (by simp only;omega) (by simp only;omega) hgl hlts (.string tl.data)) HFS.out HB0.out⟩
 ·skip
  have b1:(x.kind == 1)=false:=beq_eq_false_iff_ne.2 (by omega)
  have b2:(x.kind == 2)=false:=beq_eq_false_iff_ne.2 (by omega)
  have b3:(x.kind == 3)=true:=beq_iff_eq.2 hk
  obtain ⟨⟨f1,tl,wy⟩,hcv⟩:∃ r,callV f 3 ⟨x.path,[],⟨#[]⟩⟩=r:=⟨_,rfl⟩
  have HD:=Lib.hid (show doV f x=(f1,told0 ⟨#[]⟩,wy) from by
   unfold doV
   rw [if_neg (by omega)]
   rw [if_neg (by omega)]
   rw [if_pos hk]
   rw [hcv])
  have HCV:=Lib.hid hcv
  rw [HD.out]
  clear hk hcv
  go_wp2_with fail
  generalize (((w.alloc (.cells #[.int .u8 x.kind,.slice A x.path.length c,.slice B x.dest.length d,.string x.data] 42)).alloc (.cells #[.int .u8 0,.int .i64 0,.string ⟨#[]⟩] 46)).alloc (.cells #[.int .u8 0,.int .i64 0,.string ⟨#[]⟩] 46))=W0 at *
  have hc1:=create_api W0 g O tb f HF0.out hgO hbt htl A c x.path HP0.out hc hpB
  rw [show callV f 3 ⟨x.path,[],⟨#[]⟩⟩=(f1,tl,wy) from HCV.out] at hc1
  refine hc1.mono ?_
  clear hc1
  rintro e w1 ⟨rfl,hp1⟩
  have HP1:=Lib.hid (FsPost.mid (w:=w) hp1)
  have hk1:∀ j,w.heap.size≤j→j<W0.heap.size→w1.heap[j]? = W0.heap[j]? := fun j h1 h2=>hp1.2.block j h2 fun h=>by
   rcases h with h | h
   ·omega
   ·have:=htbl j h;omega
  have H11:=Lib.hid ((hk1 (w.heap.size+1) (by omega) (by omega)).trans H1.out)
  have H12:=Lib.hid ((hk1 (w.heap.size+2) (by omega) (by omega)).trans H2.out)
  clear hp1 hk1 l0 l1 l2 l3
  have e0:=cell_of (j:=0) H12.out rfl
  have g0:=unfr H12.out 0
  have n0:=cell_of (j:=0) H11.out rfl
  have m0:=unfr H11.out 0
  have e1:=cell_of (j:=1) H12.out rfl
  have g1:=unfr H12.out 1
  have n1:=cell_of (j:=1) H11.out rfl
  have m1:=unfr H11.out 1
  have e2:=cell_of (j:=2) H12.out rfl
  have g2:=unfr H12.out 2
  have n2:=cell_of (j:=2) H11.out rfl
  have m2:=unfr H11.out 2
  have H22:=H12
  have H21:=H11
  have HM2:=HP1
  go_wp2_with fail
  refine bodyPost_ret (results_ct rfl _ _ (w.heap.size+1) 46 #[.int .u8 0,.int .i64 0,.string ⟨#[]⟩] (0,0) _ rfl (blk_put (blk_put (blk_put H21.out 0 (.int .u8 0) rfl) 1 (.int .i64 0) rfl) 2 (.string ⟨#[]⟩) rfl) Tryz.underlying46 rfl (by kernel_rfl)) rfl ?_
  exact ⟨rfl,FsMid.done (((HM2.out.put (p:=⟨w.heap.size+1,0,none⟩) (by simp only;omega) (by simp only;omega) hgl hlts (.int .u8 0)).put (p:=⟨w.heap.size+1,1,none⟩) (by simp only;omega) (by simp only;omega) hgl hlts (.int .i64 0)).put (p:=⟨w.heap.size+1,2,none⟩) (by simp only;omega) (by simp only;omega) hgl hlts (.string ⟨#[]⟩)) HFS.out HB0.out⟩
 ·skip
  have b1:(x.kind == 1)=false:=beq_eq_false_iff_ne.2 (by omega)
  have b2:(x.kind == 2)=false:=beq_eq_false_iff_ne.2 (by omega)
  have b3:(x.kind == 3)=false:=beq_eq_false_iff_ne.2 (by omega)
  have b4:(x.kind == 4)=true:=beq_iff_eq.2 hk
  obtain ⟨⟨f1,tl,wy⟩,hcv⟩:∃ r,callV f 4 ⟨x.path,[],x.data⟩=r:=⟨_,rfl⟩
  have HD:=Lib.hid (show doV f x=(f1,told0 ⟨#[]⟩,wy) from by
   unfold doV
   rw [if_neg (by omega)]
   rw [if_neg (by omega)]
   rw [if_neg (by omega)]
   rw [if_pos hk]
   rw [hcv])
  have HCV:=Lib.hid hcv
  rw [HD.out]
  clear hk hcv
  go_wp2_with fail
  generalize (((w.alloc (.cells #[.int .u8 x.kind,.slice A x.path.length c,.slice B x.dest.length d,.string x.data] 42)).alloc (.cells #[.int .u8 0,.int .i64 0,.string ⟨#[]⟩] 46)).alloc (.cells #[.int .u8 0,.int .i64 0,.string ⟨#[]⟩] 46))=W0 at *
  have hc1:=append_api W0 g O tb f HF0.out hgO hbt htl A c x.path HP0.out hc hpB x.data hdb
  rw [show callV f 4 ⟨x.path,[],x.data⟩=(f1,tl,wy) from HCV.out] at hc1
  refine hc1.mono ?_
  clear hc1
  rintro e w1 ⟨rfl,hp1⟩
  have HP1:=Lib.hid (FsPost.mid (w:=w) hp1)
  have hk1:∀ j,w.heap.size≤j→j<W0.heap.size→w1.heap[j]? = W0.heap[j]? := fun j h1 h2=>hp1.2.block j h2 fun h=>by
   rcases h with h | h
   ·omega
   ·have:=htbl j h;omega
  have H11:=Lib.hid ((hk1 (w.heap.size+1) (by omega) (by omega)).trans H1.out)
  have H12:=Lib.hid ((hk1 (w.heap.size+2) (by omega) (by omega)).trans H2.out)
  clear hp1 hk1 l0 l1 l2 l3
  have e0:=cell_of (j:=0) H12.out rfl
  have g0:=unfr H12.out 0
  have n0:=cell_of (j:=0) H11.out rfl
  have m0:=unfr H11.out 0
  have e1:=cell_of (j:=1) H12.out rfl
  have g1:=unfr H12.out 1
  have n1:=cell_of (j:=1) H11.out rfl
  have m1:=unfr H11.out 1
  have e2:=cell_of (j:=2) H12.out rfl
  have g2:=unfr H12.out 2
  have n2:=cell_of (j:=2) H11.out rfl
  have m2:=unfr H11.out 2
  have H22:=H12
  have H21:=H11
  have HM2:=HP1
  go_wp2_with fail
  refine bodyPost_ret (results_ct rfl _ _ (w.heap.size+1) 46 #[.int .u8 0,.int .i64 0,.string ⟨#[]⟩] (0,0) _ rfl (blk_put (blk_put (blk_put H21.out 0 (.int .u8 0) rfl) 1 (.int .i64 0) rfl) 2 (.string ⟨#[]⟩) rfl) Tryz.underlying46 rfl (by kernel_rfl)) rfl ?_
  exact ⟨rfl,FsMid.done (((HM2.out.put (p:=⟨w.heap.size+1,0,none⟩) (by simp only;omega) (by simp only;omega) hgl hlts (.int .u8 0)).put (p:=⟨w.heap.size+1,1,none⟩) (by simp only;omega) (by simp only;omega) hgl hlts (.int .i64 0)).put (p:=⟨w.heap.size+1,2,none⟩) (by simp only;omega) (by simp only;omega) hgl hlts (.string ⟨#[]⟩)) HFS.out HB0.out⟩
 ·skip
  have b1:(x.kind == 1)=false:=beq_eq_false_iff_ne.2 (by omega)
  have b2:(x.kind == 2)=false:=beq_eq_false_iff_ne.2 (by omega)
  have b3:(x.kind == 3)=false:=beq_eq_false_iff_ne.2 (by omega)
  have b4:(x.kind == 4)=false:=beq_eq_false_iff_ne.2 (by omega)
  have b5:(x.kind == 5)=true:=beq_iff_eq.2 hk
  obtain ⟨⟨f1,tl,wy⟩,hcv⟩:∃ r,callV f 5 ⟨x.path,x.dest,⟨#[]⟩⟩=r:=⟨_,rfl⟩
  have HD:=Lib.hid (show doV f x=(f1,told0 ⟨#[]⟩,wy) from by
   unfold doV
   rw [if_neg (by omega)]
   rw [if_neg (by omega)]
   rw [if_neg (by omega)]
   rw [if_neg (by omega)]
   rw [if_pos hk]
   rw [hcv])
  have HCV:=Lib.hid hcv
  rw [HD.out]
  clear hk hcv
  go_wp2_with fail
  generalize (((w.alloc (.cells #[.int .u8 x.kind,.slice A x.path.length c,.slice B x.dest.length d,.string x.data] 42)).alloc (.cells #[.int .u8 0,.int .i64 0,.string ⟨#[]⟩] 46)).alloc (.cells #[.int .u8 0,.int .i64 0,.string ⟨#[]⟩] 46))=W0 at *
  have hc1:=rename_api W0 g O tb f HF0.out hgO hbt htl A c x.path HP0.out hc hpB B d x.dest HQ0.out hd hqB
  rw [show callV f 5 ⟨x.path,x.dest,⟨#[]⟩⟩=(f1,tl,wy) from HCV.out] at hc1
  refine hc1.mono ?_
  clear hc1
  rintro e w1 ⟨rfl,hp1⟩
  have HP1:=Lib.hid (FsPost.mid (w:=w) hp1)
  have hk1:∀ j,w.heap.size≤j→j<W0.heap.size→w1.heap[j]? = W0.heap[j]? := fun j h1 h2=>hp1.2.block j h2 fun h=>by
   rcases h with h | h
   ·omega
   ·have:=htbl j h;omega
  have H11:=Lib.hid ((hk1 (w.heap.size+1) (by omega) (by omega)).trans H1.out)
  have H12:=Lib.hid ((hk1 (w.heap.size+2) (by omega) (by omega)).trans H2.out)
  clear hp1 hk1 l0 l1 l2 l3
  have e0:=cell_of (j:=0) H12.out rfl
  have g0:=unfr H12.out 0
  have n0:=cell_of (j:=0) H11.out rfl
  have m0:=unfr H11.out 0
  have e1:=cell_of (j:=1) H12.out rfl
  have g1:=unfr H12.out 1
  have n1:=cell_of (j:=1) H11.out rfl
  have m1:=unfr H11.out 1
  have e2:=cell_of (j:=2) H12.out rfl
  have g2:=unfr H12.out 2
  have n2:=cell_of (j:=2) H11.out rfl
  have m2:=unfr H11.out 2
  have H22:=H12
  have H21:=H11
  have HM2:=HP1
  go_wp2_with fail
  refine bodyPost_ret (results_ct rfl _ _ (w.heap.size+1) 46 #[.int .u8 0,.int .i64 0,.string ⟨#[]⟩] (0,0) _ rfl (blk_put (blk_put (blk_put H21.out 0 (.int .u8 0) rfl) 1 (.int .i64 0) rfl) 2 (.string ⟨#[]⟩) rfl) Tryz.underlying46 rfl (by kernel_rfl)) rfl ?_
  exact ⟨rfl,FsMid.done (((HM2.out.put (p:=⟨w.heap.size+1,0,none⟩) (by simp only;omega) (by simp only;omega) hgl hlts (.int .u8 0)).put (p:=⟨w.heap.size+1,1,none⟩) (by simp only;omega) (by simp only;omega) hgl hlts (.int .i64 0)).put (p:=⟨w.heap.size+1,2,none⟩) (by simp only;omega) (by simp only;omega) hgl hlts (.string ⟨#[]⟩)) HFS.out HB0.out⟩
 ·skip
  have HD:=Lib.hid (show doV f x=(f,told0 ⟨#[]⟩,0) from by
   unfold doV
   rw [if_neg k1,if_neg k2,if_neg k3,if_neg k4,if_neg k5])
  rw [HD.out]
  have b1:(x.kind == 1)=false:=beq_eq_false_iff_ne.2 k1
  clear k1
  have b2:(x.kind == 2)=false:=beq_eq_false_iff_ne.2 k2
  clear k2
  have b3:(x.kind == 3)=false:=beq_eq_false_iff_ne.2 k3
  clear k3
  have b4:(x.kind == 4)=false:=beq_eq_false_iff_ne.2 k4
  clear k4
  have b5:(x.kind == 5)=false:=beq_eq_false_iff_ne.2 k5
  clear k5
  have e0:=cell_of (j:=0) H2.out rfl
  have n0:=cell_of (j:=0) H1.out rfl
  have m0:=unfr H1.out 0
  have e1:=cell_of (j:=1) H2.out rfl
  have n1:=cell_of (j:=1) H1.out rfl
  have m1:=unfr H1.out 1
  have e2:=cell_of (j:=2) H2.out rfl
  have n2:=cell_of (j:=2) H1.out rfl
  have m2:=unfr H1.out 2
  go_wp2_with fail
  generalize (((w.alloc (.cells #[.int .u8 x.kind,.slice A x.path.length c,.slice B x.dest.length d,.string x.data] 42)).alloc (.cells #[.int .u8 0,.int .i64 0,.string ⟨#[]⟩] 46)).alloc (.cells #[.int .u8 0,.int .i64 0,.string ⟨#[]⟩] 46))=W0 at *
  refine bodyPost_ret (results_ct rfl _ _ (w.heap.size+1) 46 #[.int .u8 0,.int .i64 0,.string ⟨#[]⟩] (0,0) _ rfl H1.out Tryz.underlying46 rfl (by kernel_rfl)) rfl ?_
  exact ⟨rfl,FsMid.done (show FsMid w W0 g O tb f W0 from ⟨⟨tb,.inl rfl,HF0.out.mono (fun k h=>.inl h) (fun k h=>h.elim (fun h=>HF0.out.lts k h) fun h=>h.2)⟩,Only.of_belowV (Below.refl _ _) _⟩) HFS.out HB0.out⟩
def oneOf (x:Step):Bool:=decide (1≤x.kind∧x.kind≤5)
set_option maxHeartbeats 4000000 in
theorem isCall_calls (x:Step) (A B:Option Addr) (c d:Nat) (w:World) :
  Calls Tryz.prog 8 #[.agg #[.int .u8 x.kind,.slice A x.path.length c,.slice B x.dest.length d,.string x.data]] w fun e w'=>e=.returned (.bool (oneOf x))∧Below w.heap.size w w':=by
 have HX:=Lib.hid (blk_new w (.cells #[.int .u8 x.kind,.slice A x.path.length c,.slice B x.dest.length d,.string x.data] 42))
 have HB0:=Lib.hid (below_alloc (Below.refl w.heap.size w) (.cells #[.int .u8 x.kind,.slice A x.path.length c,.slice B x.dest.length d,.string x.data] 42))
 obtain ⟨b,hb⟩:∃ b,oneOf x=b:=⟨_,rfl⟩
 have HO:=Lib.hid hb
 rw [hb]
 clear hb
 go_enter Tryz.func8,Tryz.ntmps8
 have l0:=cell_of (j:=0) HX.out rfl
 by_cases h1:1≤x.kind
 ·by_cases h2:x.kind≤5
  ·obtain rfl:b=true:=by rw [← HO.out];simp [oneOf,h1,h2]
   go_wp2_with fail
   go_ret
   exact ⟨rfl,HB0.out⟩
  ·obtain rfl:b=false:=by rw [← HO.out];simp [oneOf,h1,h2]
   go_wp2_with fail
   go_ret
   exact ⟨rfl,HB0.out⟩
 ·obtain rfl:b=false:=by rw [← HO.out];simp [oneOf,h1]
  go_wp2_with fail
  go_ret
  exact ⟨rfl,HB0.out⟩
theorem results_c1 {P:Program} {fn:Func} {p:Tmp} {ty:TypeId} (h:fn.results=#[.cell p ty]) (tmps:Array Value) (w:World) (g:Nat) (t:TypeId) (cs:Array Value) (fr:Nat×Nat) (d:TypeDesc)
  (hp:tmps.getD p undef=.pointer (some ⟨g,0,none⟩)) (hg:w.heap[g]? = some (.cells cs t fr))
  (hu:P.underlying ty=some d) (hd:(match d with | .struct _ | .array _ _=>true | _=>false)=true) (hi:(P.info? ty).map (·.size)=some cs.size) :
  (results fn tmps).run P w=.ok (.agg cs) w:=by
 have hp':tmps[p]?.getD undef=.pointer (some ⟨g,0,none⟩):=by simpa using hp
 simp [results,h,hp',asAddr,run_loadVar_row w g t ty cs fr d hg hu hd hi]
set_option maxHeartbeats 4000000 in
set_option maxRecDepth 100000 in
theorem tree_api (w:World) (g:Nat) (O:Nat→Prop) (tb:Option Nat) (f:FsV) (hfs:FsAt w g O tb f) (hbt:f.tree.bulk≤1099511627776) :
  Calls Tryz.prog 12 #[.pointer (some ⟨g,0,none⟩)] w fun e w'=>∃ A c,e=.returned (fileV f.tree A c)∧f.tree.files.length≤c∧FileK.R 25 w' w.heap.size (fun _=>True) (.slice A f.tree.files.length c) f.tree.files∧Below w.heap.size w w':=by
 have HFS:=Lib.hid hfs
 obtain ⟨A,c,v,m,lo,hi,hbox,hle,hiv,hsep,htr,htb,hfl,hOm,hOlt⟩:=hfs
 unfold fsCells at hbox
 have HS:=Lib.hid (fun W (h:Below w.heap.size w W)=>hiv W fun k h1 h2=>h.block k (hOlt k (hsep k h1 h2).1))
 have hgl:=blk_lt hbox
 have hb0:=below_alloc (Below.refl w.heap.size w) (.cells zC 25)
 have HBG:=Lib.hid ((hb0.block g hgl).trans hbox)
 have HZ0:=Lib.hid (blk_new w (.cells zC 25))
 have HB0:=Lib.hid hb0
 clear hbox hiv hsep htr htb hfl hOm hOlt
 go_enter Tryz.func12,Tryz.ntmps12
 obtain ⟨l0,l1,l2,l3,l4,l5⟩:=c6A HBG.out
 go_wp2_with fail
 clear l0 l1 l2 l3 l4 l5
 generalize (w.alloc (.cells zC 25))=W0 at *
 have hs0:=HB0.out.size
 have hz0:=blk_lt HZ0.out
 refine (show Calls Tryz.prog 21 #[.agg (fc f.tree A c)] _ _ from copy_file f.tree.bulk f.tree A c W0 (Nat.le_refl _) (by omega) (HS.out _ HB0.out) hle).mono ?_
 rintro e w1 ⟨v2,rfl,hR2,hq1⟩
 have HR2:=Lib.hid hR2
 obtain ⟨A2,c2,rfl,hc2,hC2⟩:=Kd.R_reads hR2
 clear hR2 hC2
 have HZ1:=Lib.hid ((hq1.block _ hz0).trans HZ0.out)
 have hb1:=HB0.out.trans (hq1.mono hs0)
 obtain ⟨z0,z1,z2,z3⟩:=c4A HZ1.out
 obtain ⟨u0,u1,u2,u3⟩:=u4A HZ1.out
 go_wp2_with fail
 have HZ9:=Lib.hid (store4_box HZ1.out (.string f.tree.name) (.int .u8 f.tree.kind) (.string f.tree.data) (.slice A2 f.tree.files.length c2))
 refine bodyPost_ret (results_c1 rfl _ _ w.heap.size 25 (fc f.tree A2 c2) (0,0) _ rfl HZ9.out Tryz.underlying25 rfl (by kernel_rfl)) rfl ?_
 exact ⟨A2,c2,rfl,hc2,Kd.R_mono (Kd.R_lower (Kd.R_step (Kd.R_bound HR2.out) fun k hk _=>store4_other w1 (g:=w.heap.size) (by have:=hk.2.1;omega) (.string f.tree.name) (.int .u8 f.tree.kind) (.string f.tree.data) (.slice A2 f.tree.files.length c2)) hs0) (fun _ _=>trivial),store4_below hb1 (Nat.le_refl _) (.string f.tree.name) (.int .u8 f.tree.kind) (.string f.tree.data) (.slice A2 f.tree.files.length c2)⟩
end Go.Proofs.YthlcjjhfkldmhaaGreatDoor.G
end
section
section
namespace Go.Proofs.YthlcjjhfkldmhaaGreatDoor.G
open Go.RowKit Go.Lib Go.Proofs.YthlcjjhfkldmhaaGreatDoorW.PrintWords Go.Proofs.YthlcjjhfkldmhaaGreatDoorW.PrintLast
set_option linter.unusedVariables false
set_option linter.unusedSimpArgs false
def reqOf (x:Step):Req:=⟨x.path,if x.kind=5 then x.dest else [],if x.kind=4 then x.data else ⟨#[]⟩⟩
def ansOf (k:Int) (r:Told×Int):Told×Int:=(if k=1 then ⟨r.1.kind,r.1.size,⟨#[]⟩⟩ else if k=2 then told0 r.1.data else told0 ⟨#[]⟩,r.2)
theorem do_call (f:FsV) (x:Step) (hx:oneOf x=true):(doV f x).1=(callV f x.kind (reqOf x)).1∧(doV f x).2=ansOf x.kind (callV f x.kind (reqOf x)).2:=by
 obtain ⟨k,p,q,d⟩:=x
 have hk:k=1∨k=2∨k=3∨k=4∨k=5:=by
  simp only [oneOf,decide_eq_true_iff] at hx
  omega
 rcases hk with rfl | rfl | rfl | rfl | rfl <;> exact ⟨rfl,rfl⟩
theorem reqOf_data (x:Step):(reqOf x).data.size≤x.data.size:=by
 unfold reqOf
 simp only
 split
 ·exact Nat.le_refl _
 ·exact Nat.zero_le _
theorem do_grows (f:FsV) (x:Step) (ht:rightT f.tree=true):rightT (doV f x).1.tree=true∧(doV f x).1.tree.bulk≤f.tree.bulk+x.data.size+259∧(doV f x).1.trace.length≤f.trace.length+1∧(doV f x).1.faults=f.faults:=by
 by_cases hx:oneOf x=true
 ·rw [(do_call f x hx).1]
  obtain ⟨h1,h2,h3,h4⟩:=call_grows f x.kind (reqOf x) ht
  have:=reqOf_data x
  exact ⟨h1,by omega,h3,h4⟩
 ·have h:doV f x=(f,told0 ⟨#[]⟩,0):=by
   simp only [oneOf,decide_eq_true_iff] at hx
   unfold doV
   rw [if_neg (by omega),if_neg (by omega),if_neg (by omega),if_neg (by omega),if_neg (by omega)]
  rw [h]
  exact ⟨ht,by simp only;omega,by simp only;omega,rfl⟩
end Go.Proofs.YthlcjjhfkldmhaaGreatDoor.G
end
section
namespace Go.Proofs.YthlcjjhfkldmhaaGreatDoor.G
open Go.RowKit Go.Lib Go.Proofs.YthlcjjhfkldmhaaGreatDoorW.PrintWords Go.Proofs.YthlcjjhfkldmhaaGreatDoorW.PrintLast
set_option linter.unusedVariables false
theorem look_nil (t:File):lookK t []=some (t.kind,t.data):=look_go (k:=0) (by rw [goP])
theorem look_cons {f:File} (hs:SortF f) (m:ByteArray) (s:List ByteArray):lookK f (m :: s)=if f.kind=1 then (match f.files.find? (nameIs m) with | some x=>lookK x s | none=>none) else none:=by
 unfold lookK
 rw [goP_find hs]
 by_cases hk:f.kind=1
 ·rw [if_pos hk,if_pos hk]
  cases f.files.find? (nameIs m) <;> rfl
 ·rw [if_neg hk,if_neg hk]
theorem look_leaf {f:File} (hk:f.kind≠1) (m:ByteArray) (s:List ByteArray):lookK f (m :: s)=none:=by
 unfold lookK
 rw [goP,if_neg hk]
theorem look_turn:∀ (q:List ByteArray) (t d:File) (L:List File) (r:List ByteArray),SortF t→SortF (putP t q {d with files:=L})→goP t q=(0,some d)→(∀ m s,r=q++m :: s→lookK {d with files:=L} (m :: s)=lookK d (m :: s))→lookK (putP t q {d with files:=L}) r=lookK t r
 | [],t,d,L,r,hs,hu,hg,hr=>by
  rw [goP] at hg
  injection hg with _ hg
  injection hg with hg
  subst hg
  rw [putP]
  cases r with
  | nil=>rw [look_nil,look_nil]
  | cons m s=>exact hr m s rfl
 | a :: q,t,d,L,[],hs,hu,hg,hr=>by
  obtain ⟨h1,h2,h3⟩:=putP_keep t a q {d with files:=L}
  rw [look_nil,look_nil,h2,h3]
 | a :: q,t,d,L,m :: s,hs,hu,hg,hr=>by
  obtain ⟨y,hk,hy,hn,hg2⟩:=goP_full hg
  rw [look_cons hu,look_cons hs]
  rw [putP,hy] at hu ⊢
  simp only at hu ⊢
  rw [SortF_eq] at hs hu
  simp only at hu
  have hlt:=(List.getElem?_eq_some_iff.1 hy).1
  have hset:(t.files.set (lowB t.files a) (putP y q {d with files:=L}))[lowB t.files a]? = some (putP y q {d with files:=L}):=by rw [List.getElem?_set_self hlt]
  have hn':(putP y q {d with files:=L}).name=a:=(putP_name q y {d with files:=L} d 0 hg2 rfl).trans hn
  rw [if_pos hk,if_pos hk]
  by_cases hma:m=a
  ·subst hma
   have f1:=find_own hs.1 (List.mem_of_getElem? hy)
   have f2:=find_own hu.1 (List.mem_of_getElem? hset)
   rw [hn] at f1
   rw [hn'] at f2
   rw [f1,f2]
   exact look_turn q y d L s (SortL_mem.1 hs.2 _ (List.mem_of_getElem? hy)) (SortL_mem.1 hu.2 _ (List.mem_of_getElem? hset)) hg2 fun m' s' e=>hr m' s' (by rw [e];rfl)
  ·rw [find_set hy (nameIs_ne (by rw [hn];exact Ne.symm hma)) (nameIs_ne (by rw [hn'];exact Ne.symm hma))]
theorem look_put {t x:File} {p:List ByteArray} (h:(putA t p x).2=0) (hx:x.kind≠1) (hold:∀ y,goP t p=(0,some y)→y.kind≠1) (r:List ByteArray) (hr:r≠p):lookK (putA t p x).1 r=lookK t r:=by
 obtain ⟨q,n,rfl,h1,h2⟩:=putA_ok h
 obtain ⟨d,hg,hk,hrt,hru,he,_,_⟩:=put_ok h1
 rw [h2,he]
 rw [he] at hru
 have hsd:=go_sort q t d 0 (right_sort hrt) hg
 have hsu:=go_sort q _ _ 0 (right_sort hru) (go_put q t {d with files:=insF d.files (nameF x n)} d hg rfl)
 refine look_turn q t d _ r (right_sort hrt) (right_sort hru) hg fun m s e => ?_
 rw [look_cons hsu,look_cons hsd]
 simp only
 rw [if_pos hk,if_pos hk]
 by_cases hm:n=m
 ·subst hm
  have hf:=find_own (by rw [SortF_eq] at hsu;exact hsu.1) (ins_mem d.files (nameF x n))
  rw [show (nameF x n).name=n from rfl] at hf
  rw [hf]
  cases s with
  | nil=>exact absurd e hr
  | cons a s =>
   simp only
   rw [look_leaf (f:=nameF x n) hx]
   cases hf2:d.files.find? (nameIs n) with
   | none=>rfl
   | some y =>
    have hy:goP t (q++[n])=(0,some y):=by rw [go_app q [n] t d hg];exact go_one hsd hk hf2
    exact (look_leaf (hold y hy) a s).symm
 ·rw [find_ins _ _ _ hm]
theorem look_drop {t y:File} {p:List ByteArray} (ht:rightT t=true) (hy:goP t p=(0,some y)) (hk:y.kind≠1) (hd0:(dropA t p).2=0) (r:List ByteArray) (hr:r≠p):rightT (dropA t p).1=true∧lookK (dropA t p).1 r=lookK t r:=by
 rcases nil_or_snoc p with rfl | ⟨q,n,rfl⟩
 ·rw [goP] at hy
  injection hy with _ hy
  injection hy with hy
  subst hy
  exact absurd (right_wrong ht).2 hk
 obtain ⟨d,h1,h2,h3,h4⟩:=go_split hy
 have hd:dropA t (q++[n])=(putP t q {d with files:=delF d.files n},0):=by
  rw [dropA_snoc]
  unfold dropR
  rw [if_pos ht,hy,h1]
 rw [hd]
 have hsd:=go_sort q t d 0 (right_sort ht) h1
 have hsn:SortedN d.files:=by rw [SortF_eq] at hsd;exact hsd.1
 have hru:rightT (putP t q {d with files:=delF d.files n})=true:=by
  refine right_turn ht h1 h2 (sorted_del hsn n) fun j hj x hx => ?_
  have hxb:=bulk_child (f:=File.mk d.name d.kind d.data (delF d.files n)) hx
  obtain ⟨g1,g2,g3,g4⟩:=at_right ht h1 (mem_del hx)
  exact ⟨g1,g2,g3,g4 j (by omega)⟩
 refine ⟨hru,?_⟩
 have hsu:=go_sort q _ _ 0 (right_sort hru) (go_put q t {d with files:=delF d.files n} d h1 rfl)
 refine look_turn q t d _ r (right_sort ht) (right_sort hru) h1 fun m s e => ?_
 rw [look_cons hsu,look_cons hsd]
 simp only
 rw [if_pos h2,if_pos h2]
 by_cases hm:m=n
 ·subst hm
  have hf:=find_own hsn (List.mem_of_getElem? h3)
  rw [h4] at hf
  rw [hf]
  cases s with
  | nil=>exact absurd e hr
  | cons a s =>
   simp only
   rw [look_leaf hk]
   have hnone:(delF d.files m).find? (nameIs m)=none:=by
    rw [List.find?_eq_none]
    intro z hz e2
    have hzn:=nameIs_iff.1 e2
    have hlt:=(List.getElem?_eq_some_iff.1 h3).1
    have hp:d.files=d.files.take (lowB d.files m)++y :: d.files.drop (lowB d.files m+1):=by
     rw [← (List.getElem?_eq_some_iff.1 h3).2,← List.drop_eq_getElem_cons hlt,List.take_append_drop]
    unfold delF at hz
    rw [SortedN,hp,List.pairwise_append,List.pairwise_cons] at hsn
    rcases List.mem_append.1 hz with hz | hz
    ·exact less_ne (hsn.2.2 z hz y List.mem_cons_self) (hzn.trans h4.symm)
    ·exact less_ne (hsn.2.1.1 z hz) (h4.trans hzn.symm)
   rw [hnone]
 ·rw [find_del h3 h4 hm]
theorem op_there (k:Int) (t:File) (x:Req) (ht:rightT t=true) :
  ((opR k t x).2.2≠0→(opR k t x).1=t)∧(k=1∨k=2→(opR k t x).1=t) ∧
  (k=3∨k=4→(opR k t x).2.2=0→(walkR t x.p true).2.2.2=0∧∀ r,r≠(walkR t x.p true).1→lookK (opR k t x).1 r=lookK t r) ∧
  (k=5→(opR k t x).2.2=0→(walkR t x.p false).2.2.2=0∧(walkR t x.dest false).2.2.2=0∧∀ r,r≠(walkR t x.p false).1→r≠(walkR t x.dest false).1→lookK (opR k t x).1 r=lookK t r):=by
 have hput:∀ (d:ByteArray) (p:List ByteArray),(putV t p (textF d)).2≠0→(putV t p (textF d)).1=t:=fun d p h=>by
  unfold putV at h ⊢
  split
  ·rename_i h0;rw [if_pos h0] at h;exact absurd h0 h
  ·rfl
 have hlook:∀ (d:ByteArray) (p:List ByteArray),(putV t p (textF d)).2=0→(∀ y,goP t p=(0,some y)→y.kind≠1)→∀ r,r≠p→lookK (putV t p (textF d)).1 r=lookK t r:=fun d p h hold r hr=>by
  have h0:(putA t p (textF d)).2=0:=by rw [← putV_zero];exact h
  unfold putV
  rw [if_pos h0]
  exact look_put h0 (by show (2:Int)≠1;decide) hold r hr
 by_cases k1:k=1
 ·subst k1
  have e:∀ x,(opR 1 t x).1=t:=fun x=>by
   show (lstatR t x).1=t
   unfold lstatR
   simp only
   split
   ·split <;> rfl
   ·rfl
  exact ⟨fun _=>e x,fun _=>e x,fun h=>by omega,fun h=>by omega⟩
 by_cases k2:k=2
 ·subst k2
  have e:∀ x,(opR 2 t x).1=t:=fun x=>by
   show (readV t x).1=t
   unfold readV
   simp only
   split
   ·split
    ·split <;> rfl
    ·rfl
   ·rfl
  exact ⟨fun _=>e x,fun _=>e x,fun h=>by omega,fun h=>by omega⟩
 by_cases k3:k=3
 ·subst k3
  have hop:opR 3 t x=createR t x:=rfl
  rw [hop]
  unfold createR
  simp only
  split
  ·rename_i hz
   split
   ·exact ⟨fun _=>rfl,fun h=>by omega,fun _ h=>by simp at h,fun h=>by omega⟩
   ·rename_i hnd
    refine ⟨fun h=>hput _ _ h,fun h=>by omega,fun _ h=>⟨hz,fun r hr=>hlook _ _ h (fun y hy hy1=>hnd ?_) r hr⟩,fun h=>by omega⟩
    obtain ⟨h1,h2⟩:=walk_there t ht x.p true hz
    cases hb:(walkR t x.p true).2.2.1 with
    | true =>
     have:=h1 hb
     rw [hy] at this
     injection this with _ this
     injection this with this
     exact ⟨rfl,by rw [← this];exact hy1⟩
    | false =>
     obtain ⟨_,q,n,d,hp,hg,hk,hf⟩:=h2 hb
     rw [hp,go_app q [n] t d hg,goP_find (go_sort q t d 0 (right_sort ht) hg),if_pos hk,hf] at hy
     cases hy
  ·rename_i hz
   exact ⟨fun _=>rfl,fun h=>by omega,fun _ h=>absurd h hz,fun h=>by omega⟩
 by_cases k4:k=4
 ·subst k4
  have hop:opR 4 t x=appendR t x:=rfl
  rw [hop]
  unfold appendR
  simp only
  split
  ·rename_i hz
   split
   ·rename_i hb
    split
    ·exact ⟨fun _=>rfl,fun h=>by omega,fun _ h=>by simp at h,fun h=>by omega⟩
    ·rename_i hnd
     refine ⟨fun h=>hput _ _ h,fun h=>by omega,fun _ h=>⟨hz,fun r hr=>hlook _ _ h (fun y hy hy1=>hnd ?_) r hr⟩,fun h=>by omega⟩
     have:=(walk_there t ht x.p true hz).1 hb
     rw [hy] at this
     injection this with _ this
     injection this with this
     rw [← this]
     exact hy1
   ·exact ⟨fun _=>rfl,fun h=>by omega,fun _ h=>by simp at h,fun h=>by omega⟩
  ·rename_i hz
   exact ⟨fun _=>rfl,fun h=>by omega,fun _ h=>absurd h hz,fun h=>by omega⟩
 have hop:opR k t x=renameR t x:=by unfold opR;rw [if_neg k1,if_neg k2,if_neg k3,if_neg k4]
 rw [hop]
 unfold renameR
 simp only
 split
 ·rename_i hz
  split
  ·rename_i hb
   split
   ·exact ⟨fun _=>rfl,fun h=>by omega,fun h=>by omega,fun _ h=>by simp at h⟩
   ·rename_i hnd
    split
    ·rename_i hq
     split
     ·exact ⟨fun _=>rfl,fun h=>by omega,fun h=>by omega,fun _ h=>by simp at h⟩
     ·rename_i hqd
      split
      ·exact ⟨fun _=>rfl,fun h=>by omega,fun h=>by omega,fun _ _=>⟨hz,hq,fun r _ _=>rfl⟩⟩
      ·rename_i hne
       split
       ·rename_i hd
        split
        ·rename_i hu
         refine ⟨fun h=>absurd rfl h,fun h=>by omega,fun h=>by omega,fun _ _=>⟨hz,hq,fun r h1 h2 => ?_⟩⟩
         have hy:=(walk_there t ht x.p false hz).1 hb
         have hdr:=fun r' h'=>look_drop ht hy hnd hd r' h'
         refine (look_put hu hnd (fun y hy2 hy1 => ?_) r h2).trans (hdr r h1).2
         have he:=(hdr _ (Ne.symm hne)).2
         rw [look_go hy2] at he
         obtain ⟨z,hz1,hz2⟩:=look_some he.symm
         obtain ⟨h3,h4⟩:=walk_there t ht x.dest false hq
         injection hz2 with hz2 _
         cases hbq:(walkR t x.dest false).2.2.1 with
         | true =>
          have:=h3 hbq
          rw [hz1] at this
          injection this with _ this
          injection this with this
          exact hqd ⟨hbq,by rw [← this,← hz2];exact hy1⟩
         | false =>
          obtain ⟨_,q,n,d,hp,hg,hk,hf⟩:=h4 hbq
          rw [hp,go_app q [n] t d hg,goP_find (go_sort q t d 0 (right_sort ht) hg),if_pos hk,hf] at hz1
          cases hz1
        ·rename_i hu
         exact ⟨fun _=>rfl,fun h=>by omega,fun h=>by omega,fun _ h=>absurd h hu⟩
       ·rename_i hd
        exact ⟨fun _=>rfl,fun h=>by omega,fun h=>by omega,fun _ h=>absurd h hd⟩
    ·rename_i hq
     exact ⟨fun _=>rfl,fun h=>by omega,fun h=>by omega,fun _ h=>absurd h hq⟩
  ·exact ⟨fun _=>rfl,fun h=>by omega,fun h=>by omega,fun _ h=>by simp at h⟩
 ·rename_i hz
  exact ⟨fun _=>rfl,fun h=>by omega,fun h=>by omega,fun _ h=>absurd h hz⟩
theorem real_of {t:File} {p:List ByteArray} {last:Bool} (ht:rightT t=true) (hp:P.rightB p=true):realR t p last=((walkR t p last).1,(walkR t p last).2.2.2):=by unfold realR;rw [if_pos ht,if_pos hp]
theorem do_there (f:FsV) (x:Step) (ht:rightT f.tree=true) :
  ((doV f x).2.2≠0∨oneOf x=false∨x.kind=1∨x.kind=2→(doV f x).1.tree=f.tree) ∧
  (x.kind=3∨x.kind=4→(doV f x).2.2=0→(realR f.tree x.path true).2=0∧∀ r,r≠(realR f.tree x.path true).1→lookK (doV f x).1.tree r=lookK f.tree r) ∧
  (x.kind=5→(doV f x).2.2=0→(realR f.tree x.path false).2=0∧(realR f.tree x.dest false).2=0∧∀ r,r≠(realR f.tree x.path false).1→r≠(realR f.tree x.dest false).1→lookK (doV f x).1.tree r=lookK f.tree r):=by
 by_cases hx:oneOf x=true
 ·obtain ⟨h1,h2⟩:=do_call f x hx
  have hw:(doV f x).2.2=(callV f x.kind (reqOf x)).2.2:=by rw [h2];rfl
  rw [hw,h1]
  obtain ⟨o1,o2,o3,o4⟩:=op_there x.kind f.tree (reqOf x) ht
  unfold callV
  by_cases hr:P.rightB (reqOf x).p=true∧P.rightB (reqOf x).dest=true
  ·rw [if_pos hr]
   simp only
   have hrp:P.rightB x.path=true:=hr.1
   by_cases hm:(f.trace.length:Int)∈f.faults
   ·rw [if_pos hm]
    exact ⟨fun _=>rfl,fun _ h=>by simp at h,fun _ h=>by simp at h⟩
   ·rw [if_neg hm]
    refine ⟨fun h => ?_,fun h hz => ?_,fun h hz => ?_⟩
    ·rcases h with h | h | h
     ·exact o1 h
     ·rw [hx] at h;cases h
     ·exact o2 h
    ·obtain ⟨g1,g2⟩:=o3 h hz
     rw [real_of ht hrp]
     exact ⟨g1,g2⟩
    ·obtain ⟨g1,g2,g3⟩:=o4 h hz
     have hd:(reqOf x).dest=x.dest:=by unfold reqOf;simp only;rw [if_pos h]
     rw [hd] at g2 g3
     have hrd:P.rightB x.dest=true:=by rw [← hd];exact hr.2
     rw [real_of ht hrp,real_of ht hrd]
     exact ⟨g1,g2,g3⟩
  ·rw [if_neg hr]
   exact ⟨fun _=>rfl,fun _ h=>by simp at h,fun _ h=>by simp at h⟩
 ·have hx':¬ (1≤x.kind∧x.kind≤5):=by simpa [oneOf] using hx
  have he:doV f x=(f,told0 ⟨#[]⟩,0):=by
   unfold doV
   rw [if_neg (by omega),if_neg (by omega),if_neg (by omega),if_neg (by omega),if_neg (by omega)]
  rw [he]
  exact ⟨fun _=>rfl,fun h=>by omega,fun h=>by omega⟩
end Go.Proofs.YthlcjjhfkldmhaaGreatDoor.G
end
end
section
section
namespace Go.Proofs.YthlcjjhfkldmhaaGreatDoor.G
open Go.RowKit Go.Lib Go.Proofs.YthlcjjhfkldmhaaGreatDoorW.PrintWords Go.Proofs.YthlcjjhfkldmhaaGreatDoorW.PrintLast
set_option linter.unusedVariables false
def FsIn (S:Nat→Prop) (w:World) (g:Nat) (f:FsV):Prop:=∃ O tb,FsAt w g O tb f∧¬ O g∧S g∧∀ k,O k→S k
def Grown (S:Nat→Prop) (w w':World) (k:Nat):Prop:=S k∨w.heap.size≤k∧k<w'.heap.size
theorem fs_tb {w:World} {g:Nat} {O:Nat→Prop} {tb:Option Nat} {f:FsV} (h:FsAt w g O tb f):∀ k,tb=some k→O k:=by
 obtain ⟨A,c,v,m,lo,hi,_,_,_,_,h5,h6,_⟩:=h
 exact fun k e=>((Kd.R_bound h5).1 k (h6.trans e)).1
theorem FsIn.keep {S F:Nat→Prop} {w w':World} {g:Nat} {f:FsV} (h:FsIn S w g f) (ho:Only F w w') (hd:∀ k,S k→¬ F k):FsIn S w' g f:=by
 obtain ⟨O,tb,h1,h2,h3,h4⟩:=h
 exact ⟨O,tb,h1.keep (fun k hk=>ho.block k (hk.elim (fun e=>e ▸ h1.lt) (h1.lts k)) (hd k (hk.elim (fun e=>e ▸ h3) (h4 k)))) ho.size,h2,h3,h4⟩
theorem FsIn.below {S:Nat→Prop} {w w':World} {g:Nat} {f:FsV} (h:FsIn S w g f) (hb:Below w.heap.size w w'):FsIn S w' g f:=by
 obtain ⟨O,tb,h1,h2,h3,h4⟩:=h
 exact ⟨O,tb,h1.below hb,h2,h3,h4⟩
theorem FsIn.mono {S T:Nat→Prop} {w:World} {g:Nat} {f:FsV} (h:FsIn S w g f) (hS:∀ k,S k→T k):FsIn T w g f:=by
 obtain ⟨O,tb,h1,h2,h3,h4⟩:=h
 exact ⟨O,tb,h1,h2,hS _ h3,fun k hk=>hS k (h4 k hk)⟩
theorem fsIn_post {S:Nat→Prop} {w w':World} {g:Nat} {O:Nat→Prop} {tb:Option Nat} {f f':FsV} (hfs:FsAt w g O tb f) (hg:¬ O g) (hS:S g) (hO:∀ k,O k→S k) (h:FsPost w g O tb f' w'):FsIn (Grown S w w') w' g f'∧Only S w w':=by
 obtain ⟨⟨tb',h1,h2⟩,h3⟩:=h
 have hl:=hfs.lt
 refine ⟨⟨_,tb',h2,fun h=>h.elim hg fun h=>by omega,.inl hS,fun k hk=>hk.imp (hO k) id⟩,h3.mono fun k _ hk => ?_⟩
 rcases hk with h | h
 ·exact h ▸ hS
 ·exact hO k (fs_tb hfs k h)
theorem path_in {S:Nat→Prop} {w:World} {g:Nat} {O:Nat→Prop} {tb:Option Nat} {f:FsV} {A:Option Addr} {p:List ByteArray} (hfs:FsAt w g O tb f) (hS:S g) (hO:∀ k,O k→S k) (h:Kd.F Kd.string w (fun k=>¬ S k) A p.length p):PathAt w g tb A p :=
 Kd.F_mono h fun k hk=>⟨fun e=>hk (e ▸ hS),fun e=>hk (hO k (fs_tb hfs k e))⟩
theorem new_in (t:File) (A:Option Addr) (c:Nat) (Al:Option Addr) (cl:Nat) (l:List Int) (w:World) (ht:FileK.C w A t.files.length t.files) (hc:t.files.length≤c) (hbt:t.bulk≤1099511627776) (hl:Kd.C (Kd.int .i64) w Al l.length l) (hcl:l.length≤cl) (hll:l.length≤1099511627776) :
  Calls Tryz.prog 6 #[fileV t A c,.slice Al l.length cl] w fun e w'=>(rightT t=false∧e=.returned (.tuple #[.pointer none,.int .i64 30])∧Below w.heap.size w w')∨(rightT t=true∧∃ g,e=.returned (.tuple #[.pointer (some ⟨g,0,none⟩),.int .i64 0])∧FsIn (fun k=>w.heap.size≤k∧k<w'.heap.size) w' g ⟨t,[],l⟩∧Below w.heap.size w w'):=by
 refine (new_calls t A c Al cl l w ht hc hbt hl hcl hll).mono ?_
 rintro e w' (h | ⟨h1,g,h2,h3,h4,h5⟩)
 ·exact .inl h
 ·exact .inr ⟨h1,g,h2,⟨_,none,h3,fun h=>h.2.1 rfl,⟨h4,h3.lt⟩,fun k hk=>⟨hk.1,hk.2.2⟩⟩,h5⟩
theorem calls_in (w:World) (g:Nat) (S:Nat→Prop) (f:FsV) (h:FsIn S w g f) :
  Calls Tryz.prog 13 #[.pointer (some ⟨g,0,none⟩)] w fun e w'=>e=.returned (.int .i64 f.trace.length)∧w'=w:=by
 obtain ⟨O,tb,h1,_⟩:=h
 exact calls_api w g O tb f h1
theorem tree_in (w:World) (g:Nat) (S:Nat→Prop) (f:FsV) (h:FsIn S w g f) (hbt:f.tree.bulk≤1099511627776) :
  Calls Tryz.prog 12 #[.pointer (some ⟨g,0,none⟩)] w fun e w'=>∃ A c,e=.returned (fileV f.tree A c)∧f.tree.files.length≤c∧FileK.R 25 w' w.heap.size (fun _=>True) (.slice A f.tree.files.length c) f.tree.files∧Below w.heap.size w w':=by
 obtain ⟨O,tb,h1,_⟩:=h
 exact tree_api w g O tb f h1 hbt
theorem read_in (w:World) (g:Nat) (S:Nat→Prop) (f:FsV) (h:FsIn S w g f) (hbt:f.tree.bulk≤100000000) (htl:f.trace.length≤2000000) (Ap:Option Addr) (cp:Nat) (p:List ByteArray) (HP:Kd.F Kd.string w (fun k=>¬ S k) Ap p.length p) (hcp:p.length≤cp) (hpB:P.sumP p≤1099511627776) :
  Calls Tryz.prog 24 #[.pointer (some ⟨g,0,none⟩),.slice Ap p.length cp] w fun e w'=>e=.returned (.tuple #[.string (callV f 2 ⟨p,[],⟨#[]⟩⟩).2.1.data,.int .i64 (callV f 2 ⟨p,[],⟨#[]⟩⟩).2.2])∧FsIn (Grown S w w') w' g (callV f 2 ⟨p,[],⟨#[]⟩⟩).1∧Only S w w':=by
 obtain ⟨O,tb,h1,h2,h3,h4⟩:=h
 refine (read_api w g O tb f h1 h2 hbt htl Ap cp p (path_in h1 h3 h4 HP) hcp hpB).mono fun e w' hp=>⟨hp.1,fsIn_post h1 h2 h3 h4 hp.2⟩
theorem append_in (w:World) (g:Nat) (S:Nat→Prop) (f:FsV) (h:FsIn S w g f) (hbt:f.tree.bulk≤100000000) (htl:f.trace.length≤2000000) (Ap:Option Addr) (cp:Nat) (p:List ByteArray) (HP:Kd.F Kd.string w (fun k=>¬ S k) Ap p.length p) (hcp:p.length≤cp) (hpB:P.sumP p≤1099511627776) (d:ByteArray) (hd:d.size≤100000000) :
  Calls Tryz.prog 26 #[.pointer (some ⟨g,0,none⟩),.slice Ap p.length cp,.string d] w fun e w'=>e=.returned (.int .i64 (callV f 4 ⟨p,[],d⟩).2.2)∧FsIn (Grown S w w') w' g (callV f 4 ⟨p,[],d⟩).1∧Only S w w':=by
 obtain ⟨O,tb,h1,h2,h3,h4⟩:=h
 refine (append_api w g O tb f h1 h2 hbt htl Ap cp p (path_in h1 h3 h4 HP) hcp hpB d hd).mono fun e w' hp=>⟨hp.1,fsIn_post h1 h2 h3 h4 hp.2⟩
theorem do_in (w:World) (g:Nat) (S:Nat→Prop) (f:FsV) (h:FsIn S w g f) (hbt:f.tree.bulk≤100000000) (htl:f.trace.length≤2000000) (x:Step) (A B:Option Addr) (c d:Nat) (HP:Kd.F Kd.string w (fun k=>¬ S k) A x.path.length x.path) (hc:x.path.length≤c) (hpB:P.sumP x.path≤1099511627776) (HQ:Kd.F Kd.string w (fun k=>¬ S k) B x.dest.length x.dest) (hd:x.dest.length≤d) (hqB:P.sumP x.dest≤1099511627776) (hdb:x.data.size≤100000000) :
  Calls Tryz.prog 9 #[.pointer (some ⟨g,0,none⟩),.agg #[.int .u8 x.kind,.slice A x.path.length c,.slice B x.dest.length d,.string x.data]] w fun e w'=>e=.returned (.tuple #[.agg #[.int .u8 (doV f x).2.1.kind,.int .i64 (doV f x).2.1.size,.string (doV f x).2.1.data],.int .i64 (doV f x).2.2])∧FsIn (Grown S w w') w' g (doV f x).1∧Only S w w':=by
 obtain ⟨O,tb,h1,h2,h3,h4⟩:=h
 refine (do_calls w g O tb f h1 h2 hbt htl x A B c d (path_in h1 h3 h4 HP) hc hpB (path_in h1 h3 h4 HQ) hd hqB hdb).mono fun e w' hp=>⟨hp.1,fsIn_post h1 h2 h3 h4 hp.2⟩
theorem C_of_boxV {W:World} {g:Nat} {cells:Array Value} {l:List ByteArray} (h:W.heap[g]? = some (.cells cells 9 (0,0))) (hl:cells.toList=l.map Value.string) (hn:l.length≤1048576):Kd.C Kd.string W (some ⟨g,0,none⟩) l.length l:=by
 refine Kd.C_of_reads (d:=ByteArray.empty) (h1:=fun _=>rfl) ⟨rfl,by omega,fun _=>⟨_,rfl,fun j hj => ?_⟩⟩
 have hz:cells[j]? = some (.string (l.getD j ByteArray.empty)):=by
  rw [← Array.getElem?_toList,hl,List.getElem?_map,List.getElem?_eq_getElem hj]
  simp [List.getD,hj]
 rcases Nat.eq_zero_or_pos j with rfl | h0
 ·simpa [Addr.add,World.cell?,h] using hz
 ·have hj0:¬ j=0:=by omega
  simpa [Addr.add,World.cell?,h,hj0] using hz
theorem F_of_box {W:World} {g:Nat} {cells:Array Value} {l:List ByteArray} {ok:Nat→Prop} (h:W.heap[g]? = some (.cells cells 9 (0,0))) (hl:cells.toList=l.map Value.string) (hn:l.length≤1048576) (hok:ok g):Kd.F Kd.string W ok (some ⟨g,0,none⟩) l.length l :=
 fun W' hW=>C_of_boxV ((hW g hok (blk_lt h)).trans h) hl hn
end Go.Proofs.YthlcjjhfkldmhaaGreatDoor.G
end
section
namespace Go.Proofs.YthlcjjhfkldmhaaGreatDoor.G
open Go.RowKit Go.Lib Go.Proofs.YthlcjjhfkldmhaaGreatDoorW.PrintWords Go.Proofs.YthlcjjhfkldmhaaGreatDoorW.PrintLast
set_option linter.unusedVariables false
set_option linter.unusedSimpArgs false
def fileB:File:=⟨⟨#[98]⟩,2,⟨#[120]⟩,[]⟩
def fileA:File:=⟨⟨#[97]⟩,1,⟨#[]⟩,[fileB]⟩
def fileC:File:=⟨⟨#[99]⟩,3,⟨#[97]⟩,[]⟩
def smallF:File:=⟨⟨#[]⟩,1,⟨#[]⟩,[fileA,fileC]⟩
theorem C_one {W:World} {g:Nat} {a b c v:Value} {x:File} (h:W.heap[g]? = some (.cells #[a,b,c,v] 25 (0,0))) (hx:FileK.K W x [a,b,c,v]):FileK.C W (some ⟨g,0,none⟩) 1 [x]:=by
 refine ⟨rfl,by decide,fun _=>⟨_,rfl,fun j p hj => ?_⟩⟩
 match j,hj with
 | 0,hj =>
  obtain rfl:x=p:=by simpa using hj
  refine ⟨_,rfl,hx,fun i u hu => ?_⟩
  match i,hu with
  | 0,hu | 1,hu | 2,hu | 3,hu=>exact (cell_of h rfl).trans hu
theorem C_two {W:World} {g:Nat} {a b c v a' b' c' v':Value} {x y:File} (h:W.heap[g]? = some (.cells #[a,b,c,v,a',b',c',v'] 25 (0,0))) (hx:FileK.K W x [a,b,c,v]) (hy:FileK.K W y [a',b',c',v']):FileK.C W (some ⟨g,0,none⟩) 2 [x,y]:=by
 refine ⟨rfl,by decide,fun _=>⟨_,rfl,fun j p hj => ?_⟩⟩
 match j,hj with
 | 0,hj =>
  obtain rfl:x=p:=by simpa using hj
  refine ⟨_,rfl,hx,fun i u hu => ?_⟩
  match i,hu with
  | 0,hu | 1,hu | 2,hu | 3,hu=>exact (cell_of h rfl).trans hu
 | 1,hj =>
  obtain rfl:y=p:=by simpa using hj
  refine ⟨_,rfl,hy,fun i u hu => ?_⟩
  match i,hu with
  | 0,hu | 1,hu | 2,hu | 3,hu=>exact (cell_of h rfl).trans hu
set_option maxHeartbeats 4000000 in
set_option maxRecDepth 100000 in
theorem small_calls (w:World) :
  Calls Tryz.prog 35 #[] w fun e w'=>∃ A c,e=.returned (fileV smallF A c)∧smallF.files.length≤c∧FileK.C w' A smallF.files.length smallF.files∧Below w.heap.size w w':=by
 have h3:=boxes3 w #[.string ⟨#[]⟩,.int .u8 1,.string ⟨#[]⟩,.slice (some ⟨w.heap.size+2,0,none⟩) 2 2] #[.string ⟨#[98]⟩,.int .u8 2,.string ⟨#[120]⟩,.slice none 0 0] #[.string ⟨#[97]⟩,.int .u8 1,.string ⟨#[]⟩,.slice (some ⟨w.heap.size+1,0,none⟩) 1 1,.string ⟨#[99]⟩,.int .u8 3,.string ⟨#[97]⟩,.slice none 0 0] 25 25 25
 have hb0:=(((Below.refl w.heap.size w).alloc (Nat.le_refl _) (.cells #[.string ⟨#[]⟩,.int .u8 1,.string ⟨#[]⟩,.slice (some ⟨w.heap.size+2,0,none⟩) 2 2] 25)).alloc (by simp) (.cells #[.string ⟨#[98]⟩,.int .u8 2,.string ⟨#[120]⟩,.slice none 0 0] 25)).alloc (by simp;omega) (.cells #[.string ⟨#[97]⟩,.int .u8 1,.string ⟨#[]⟩,.slice (some ⟨w.heap.size+1,0,none⟩) 1 1,.string ⟨#[99]⟩,.int .u8 3,.string ⟨#[97]⟩,.slice none 0 0] 25)
 have H0:=Lib.hid h3.1
 have H1:=Lib.hid h3.2.1
 have H2:=Lib.hid h3.2.2
 have HB0:=Lib.hid hb0
 clear h3 hb0
 go_enter Tryz.func35,Tryz.ntmps35
 go_wp2_with fail
 refine bodyPost_ret (results_c1 rfl _ _ w.heap.size 25 #[.string ⟨#[]⟩,.int .u8 1,.string ⟨#[]⟩,.slice (some ⟨w.heap.size+2,0,none⟩) 2 2] (0,0) _ rfl H0.out Tryz.underlying25 rfl (by kernel_rfl)) rfl ?_
 exact ⟨some ⟨w.heap.size+2,0,none⟩,2,rfl,Nat.le_refl _,C_two H2.out (file_mk _ fileA (c:=1) (Nat.le_refl _) (C_one H1.out (file_mk _ fileB (Nat.le_refl _) (Kd.C_nil _ _)))) (file_mk _ fileC (Nat.le_refl _) (Kd.C_nil _ _)),HB0.out⟩
def pCB:List ByteArray:=[⟨#[99]⟩,⟨#[98]⟩]
def pAB:List ByteArray:=[⟨#[97]⟩,⟨#[98]⟩]
def bg0:FsV:=⟨smallF,[],[]⟩
def bg1:FsV×Told×Int:=callV bg0 2 ⟨pCB,[],⟨#[]⟩⟩
def bg2:FsV×Told×Int:=callV bg1.1 4 ⟨pCB,[],⟨#[121]⟩⟩
def bg3:FsV×Told×Int:=callV bg2.1 2 ⟨pAB,[],⟨#[]⟩⟩
theorem bulk_B:fileB.bulk=6:=(bulk_eq _).trans rfl
theorem bulk_A:fileA.bulk=11:=(bulk_eq _).trans (by show 4+1+0+(fileB.bulk+0)=11;rw [bulk_B])
theorem bulk_Cc:fileC.bulk=6:=(bulk_eq _).trans rfl
theorem bulk_S:smallF.bulk=21:=(bulk_eq _).trans (by show 4+0+0+(fileA.bulk+(fileC.bulk+0))=21;rw [bulk_A,bulk_Cc])
def fileB2:File:=⟨⟨#[98]⟩,2,⟨#[120,121]⟩,[]⟩
def fileA2:File:=⟨⟨#[97]⟩,1,⟨#[]⟩,[fileB2]⟩
def smallF2:File:=⟨⟨#[]⟩,1,⟨#[]⟩,[fileA2,fileC]⟩
theorem bulk_B2:fileB2.bulk=7:=(bulk_eq _).trans rfl
theorem bulk_A2:fileA2.bulk=12:=(bulk_eq _).trans (by show 4+1+0+(fileB2.bulk+0)=12;rw [bulk_B2])
theorem bulk_S2:smallF2.bulk=22:=(bulk_eq _).trans (by show 4+0+0+(fileA2.bulk+(fileC.bulk+0))=22;rw [bulk_A2,bulk_Cc])
theorem right_by {f:File} {n:Nat} (h:f.bulk=n) (h2:(if f.kind=1∧f.name.toList.isEmpty=true∧f.data.toList.isEmpty=true then checkO (wrongN n f []) else ((30:Int),[])).1=0):rightT f=true:=by
 unfold rightT checkR
 rw [h,h2]
 rfl
theorem bg_right:rightT smallF=true:=right_by bulk_S (by kernel_rfl)
theorem bg_right2:rightT smallF2=true:=right_by bulk_S2 (by kernel_rfl)
theorem bg_put:putA smallF pAB (textF ⟨#[120,121]⟩)=(smallF2,0):=by
 show putR smallF [⟨#[97]⟩] ⟨#[98]⟩ _=_
 unfold putR
 rw [if_pos bg_right,show goP smallF [⟨#[97]⟩]=(0,some fileA) by kernel_rfl]
 simp only
 rw [if_pos (by kernel_rfl),show putP smallF [⟨#[97]⟩] {fileA with files:=insF fileA.files (nameF (textF ⟨#[120,121]⟩) ⟨#[98]⟩)}=smallF2 by kernel_rfl,if_pos bg_right2]
theorem bg1_eq:bg1=(⟨smallF,[⟨2,pCB,[],0⟩],[]⟩,told0 ⟨#[120]⟩,0):=by kernel_rfl
theorem bg2_eq:bg2=(⟨smallF2,[⟨2,pCB,[],0⟩,⟨4,pCB,[],0⟩],[]⟩,told0 ⟨#[121]⟩,0):=by
 unfold bg2
 rw [bg1_eq]
 have h1:opR 4 smallF ⟨pCB,[],⟨#[121]⟩⟩=(smallF2,told0 ⟨#[121]⟩,0):=by
  show appendR smallF ⟨pCB,[],⟨#[121]⟩⟩=_
  unfold appendR
  simp only
  rw [show walkR smallF pCB true=(pAB,fileB,true,0) by kernel_rfl]
  simp only
  rw [if_pos trivial,if_pos trivial,if_neg (by decide)]
  unfold putV
  rw [show fileB.data++⟨#[121]⟩=⟨#[120,121]⟩ by kernel_rfl,bg_put]
  rfl
 unfold callV
 rw [if_pos ⟨by kernel_rfl,by kernel_rfl⟩,if_neg (by simp)]
 simp only
 rw [h1]
 rfl
theorem bg3_eq:bg3=(⟨smallF2,[⟨2,pCB,[],0⟩,⟨4,pCB,[],0⟩,⟨2,pAB,[],0⟩],[]⟩,told0 ⟨#[120,121]⟩,0):=by
 unfold bg3
 rw [bg2_eq]
 kernel_rfl
theorem call1_eq:callV ⟨smallF,[],[]⟩ 2 ⟨pCB,[],⟨#[]⟩⟩=(⟨smallF,[⟨2,pCB,[],0⟩],[]⟩,told0 ⟨#[120]⟩,0):=bg1_eq
theorem call2_eq:callV ⟨smallF,[⟨2,pCB,[],0⟩],[]⟩ 4 ⟨pCB,[],⟨#[121]⟩⟩=(⟨smallF2,[⟨2,pCB,[],0⟩,⟨4,pCB,[],0⟩],[]⟩,told0 ⟨#[121]⟩,0):=by
 have h:=bg2_eq
 unfold bg2 at h
 rwa [bg1_eq] at h
theorem call3_eq:callV ⟨smallF2,[⟨2,pCB,[],0⟩,⟨4,pCB,[],0⟩],[]⟩ 2 ⟨pAB,[],⟨#[]⟩⟩=(⟨smallF2,[⟨2,pCB,[],0⟩,⟨4,pCB,[],0⟩,⟨2,pAB,[],0⟩],[]⟩,told0 ⟨#[120,121]⟩,0):=by
 have h:=bg3_eq
 unfold bg3 at h
 rwa [bg2_eq] at h
set_option maxHeartbeats 4000000 in
set_option maxRecDepth 100000 in
theorem begins_calls (w:World) :
  Calls Tryz.prog 16 #[] w fun e w'=>e=.returned (.bool true)∧Below w.heap.size w w':=by
 go_enter Tryz.func16,Tryz.ntmps16
 go_wp2_with fail
 refine (small_calls w).mono ?_
 rintro e w1 ⟨A,c,rfl,hc,hC,hq1⟩
 unfold fileV
 have hs1:=hq1.size
 have HC:=Lib.hid hC
 clear hC
 go_wp2_with fail
 refine (show Calls Tryz.prog 6 #[.agg (fc smallF A c),.slice none 0 0] w1 _ from new_in smallF A c none 0 [] w1 HC.out hc (by rw [bulk_S];omega) (Kd.C_nil _ _) (Nat.le_refl _) (by show 0≤_;omega)).mono ?_
 rintro e w2 (⟨h,_,_⟩ | ⟨-,g,rfl,hfs,hq2⟩)
 ·rw [bg_right] at h
  cases h
 have hs2:=hq2.size
 have hb2:=hq1.trans (hq2.mono hs1)
 have HF:=Lib.hid (hfs.mono (T:=fun k=>w1.heap.size≤k∧k<w2.heap.size) fun _ h=>h)
 have HB:=Lib.hid hb2
 clear hfs hq2 hb2 HC
 have hax:=below_alloc (Below.refl w2.heap.size w2) (.cells #[.string ⟨#[99]⟩,.string ⟨#[98]⟩] 9)
 have HX:=Lib.hid (F_of_box (ok:=fun k=>¬ (fun k=>w1.heap.size≤k∧k<w2.heap.size) k) (l:=pCB) (blk_new w2 (.cells #[.string ⟨#[99]⟩,.string ⟨#[98]⟩] 9)) rfl (by decide) (fun h=>by have:=h.2;omega))
 have HFX:=Lib.hid (HF.out.below hax)
 have hsx:=hax.size
 have HBX:=Lib.hid (HB.out.trans (hax.mono HB.out.size))
 clear hax
 go_wp2_with fail
 generalize (w2.alloc (.cells #[.string ⟨#[99]⟩,.string ⟨#[98]⟩] 9))=X1 at *
 have hcl:=read_in X1 g (fun k=>w1.heap.size≤k∧k<w2.heap.size) ⟨smallF,[],[]⟩ HFX.out (by show smallF.bulk≤_;rw [bulk_S];omega) (by show 0≤_;omega) _ 2 pCB HX.out (by decide) (by show _≤_;decide)
 rw [call1_eq] at hcl
 refine hcl.mono ?_
 clear hcl HX HF HB
 rintro e v1 ⟨rfl,hfs,ho⟩
 have hso:=ho.size
 have HF:=Lib.hid hfs
 have HB:=Lib.hid (HBX.out.trans (ho.below (B:=w.heap.size) (by omega) (fun k hk h=>by have:=h.1;omega)))
 clear hfs ho HFX HBX
 simp only [told0]
 have hax:=below_alloc (Below.refl v1.heap.size v1) (.cells #[.string ⟨#[99]⟩,.string ⟨#[98]⟩] 9)
 have HX:=Lib.hid (F_of_box (ok:=fun k=>¬ (Grown (fun k=>w1.heap.size≤k∧k<w2.heap.size) X1 v1) k) (l:=pCB) (blk_new v1 (.cells #[.string ⟨#[99]⟩,.string ⟨#[98]⟩] 9)) rfl (by decide) (fun h=>by rcases h with h | h;(· have:=h.2;omega);(· have:=h.2;omega)))
 have HFX:=Lib.hid (HF.out.below hax)
 have hsx:=hax.size
 have HBX:=Lib.hid (HB.out.trans (hax.mono HB.out.size))
 clear hax
 go_wp2_with fail
 generalize (v1.alloc (.cells #[.string ⟨#[99]⟩,.string ⟨#[98]⟩] 9))=X2 at *
 have hcl:=append_in X2 g (Grown (fun k=>w1.heap.size≤k∧k<w2.heap.size) X1 v1) ⟨smallF,[⟨2,pCB,[],0⟩],[]⟩ HFX.out (by show smallF.bulk≤_;rw [bulk_S];omega) (by show 1≤_;omega) _ 2 pCB HX.out (by decide) (by show _≤_;decide) ⟨#[121]⟩ (by show 1≤_;omega)
 rw [call2_eq] at hcl
 refine hcl.mono ?_
 clear hcl HX HF HB
 rintro e v2 ⟨rfl,hfs,ho⟩
 have hso:=ho.size
 have HF:=Lib.hid hfs
 have HB:=Lib.hid (HBX.out.trans (ho.below (B:=w.heap.size) (by omega) (fun k hk h=>by rcases h with h | h;(· have:=h.1;omega);(· have:=h.1;omega))))
 clear hfs ho HFX HBX
 simp only [told0]
 have hax:=below_alloc (Below.refl v2.heap.size v2) (.cells #[.string ⟨#[97]⟩,.string ⟨#[98]⟩] 9)
 have HX:=Lib.hid (F_of_box (ok:=fun k=>¬ (Grown (Grown (fun k=>w1.heap.size≤k∧k<w2.heap.size) X1 v1) X2 v2) k) (l:=pAB) (blk_new v2 (.cells #[.string ⟨#[97]⟩,.string ⟨#[98]⟩] 9)) rfl (by decide) (fun h=>by rcases h with (h | h) | h;(· have:=h.2;omega);(· have:=h.2;omega);(· have:=h.2;omega)))
 have HFX:=Lib.hid (HF.out.below hax)
 have hsx:=hax.size
 have HBX:=Lib.hid (HB.out.trans (hax.mono HB.out.size))
 clear hax
 go_wp2_with fail
 generalize (v2.alloc (.cells #[.string ⟨#[97]⟩,.string ⟨#[98]⟩] 9))=X3 at *
 have hcl:=read_in X3 g (Grown (Grown (fun k=>w1.heap.size≤k∧k<w2.heap.size) X1 v1) X2 v2) ⟨smallF2,[⟨2,pCB,[],0⟩,⟨4,pCB,[],0⟩],[]⟩ HFX.out (by show smallF2.bulk≤_;rw [bulk_S2];omega) (by show 2≤_;omega) _ 2 pAB HX.out (by decide) (by show _≤_;decide)
 rw [call3_eq] at hcl
 refine hcl.mono ?_
 clear hcl HX HF HB
 rintro e v3 ⟨rfl,hfs,ho⟩
 have hso:=ho.size
 have HF:=Lib.hid hfs
 have HB:=Lib.hid (HBX.out.trans (ho.below (B:=w.heap.size) (by omega) (fun k hk h=>by rcases h with (h | h) | h;(· have:=h.1;omega);(· have:=h.1;omega);(· have:=h.1;omega))))
 clear hfs ho HFX HBX
 simp only [told0]
 go_wp2_with fail
 refine (calls_in v3 g _ _ HF.out).mono ?_
 rintro e w9 ⟨rfl,rfl⟩
 go_wp2_with fail
 go_ret
 exact ⟨rfl,HB.out⟩
end Go.Proofs.YthlcjjhfkldmhaaGreatDoor.G
end
end
