import Derived.Test.YthlcjjhfkldmhaaGreatDoorKit
import Derived.Test.YthlcjjhfkldmhaaGreatDoorSq
import Derived.Test.YthlcjjhfkldmhaaGreatDoorVAppend
import Derived.BigQuiet
import Derived.WideMake
import Derived.Carry
import Derived.MapKept
set_option linter.unusedVariables false
set_option linter.unusedSimpArgs false
section
namespace Go.Proofs.YthlcjjhfkldmhaaGreatDoor.G
open Go.RowKit Go.Lib Go.Proofs.YthlcjjhfkldmhaaGreatDoorW.PrintWords Go.Proofs.YthlcjjhfkldmhaaGreatDoorW.PrintLast
set_option linter.unusedVariables false
set_option linter.unusedSimpArgs false
set_option maxHeartbeats 8000000 in
set_option maxRecDepth 100000 in
theorem create_fs (w:World) (g r:Nat) (O:Nat→Prop) (tb:Option Nat) (f:FsV) (x:Req) (Ap:Option Addr) (cp:Nat) (Ad:Option Addr) (cd:Nat) (hfs:FsAt w g O tb f) (hreq:w.heap[r]? = some (.cells #[.slice Ap x.p.length cp,.slice Ad x.dest.length cd,.string x.data,.int .u8 0,.int .i64 0] 97 (0,0))) (hrg:r≠g) (hrO:¬ O r) (hbt:f.tree.bulk≤100000000) (hp:Kd.C Kd.string w Ap x.p.length x.p) (hcp:x.p.length≤cp) (hps:P.sumP x.p≤1024) (hdb:x.data.size≤100000000) :
  Calls Tryz.prog 98 #[.pointer (some ⟨g,0,none⟩),.pointer (some ⟨r,0,none⟩)] w fun e w'=>OpPost w g r O tb f x Ap cp Ad cd (createR f.tree x) e w':=by
 have HFS0:=Lib.hid hfs
 obtain ⟨A,c,v,m,lo,hi,hbox,hle,hiv,hsep,htr,htb,hfl,hOm,hOlt⟩:=hfs
 unfold fsCells at hbox
 have hgl:=blk_lt hbox
 have hrl:=blk_lt hreq
 have HS:=Lib.hid (fun W (h:Below w.heap.size w W)=>hiv W fun k h1 h2=>h.block k (hOlt k (hsep k h1 h2).1))
 have hlen:=P.sumP_len x.p
 have hb0:=Below.refl w.heap.size w
 have I:=Lib.hid (Hd.base hb0 (by first | exact Nat.le_refl _ | exact Below.size hb0))
 replace I:=Lib.hid (Hd.and I.out (Hd.box hbox))
 replace I:=Lib.hid (Hd.and I.out (Hd.box hreq))
 replace I:=Lib.hid (Hd.and I.out (Hd.reads (hp)))
 obtain ⟨⟨q,y,is,k⟩,hu⟩:∃ r,walkR f.tree x.p true=r:=⟨_,rfl⟩
 have HU:=Lib.hid hu
 have HRES:=Lib.hid (show createR f.tree x=createR f.tree x from rfl)
 obtain ⟨res,hres⟩:∃ r,createR f.tree x=r:=⟨_,rfl⟩
 have HR:=Lib.hid (show _=res from hres)
 rw [hres]
 clear hu hres HRES hiv hsep htr hfl hOm hOlt hp hbox htb hreq
 go_enter Tryz.func98,Tryz.ntmps98
 go_wp2_with fail
 refine start_ (n:=19) (S:=fun w'=>w'.heap[g]? = some (.cells #[.string f.tree.name,.int .u8 f.tree.kind,.string f.tree.data,.slice A f.tree.files.length c,v,.map (some m)] 68 (0,0))∧w'.heap[r]? = some (.cells #[.slice Ap x.p.length cp,.slice Ad x.dest.length cd,.string x.data,.int .u8 0,.int .i64 0] 97 (0,0))) (ds:=[16]) (bq 19 0) (by kernel_rfl) rfl rfl ⟨(I.out _ (bdrew (Below.refl w.heap.size w))).2.2.1,(I.out _ (bdrew (Below.refl w.heap.size w))).2.1⟩ (fun hHeld => ?_)
 refine pA 0 10 (bq 19 1) ?_
 refine pA 1 11 (bq 19 3) ?_
 refine pA 2 12 (bq 19 7) ?_
 refine pA 4 14 (bq 19 23) ?_
 refine pA 5 15 (bq 19 55) ?_
 refine pA 6 16 (bq 19 119) ?_
 refine tA 3 13 (bq 19 127) hHeld ?_ (hy:=by
  rintro w' ⟨s0,s1⟩
  have q0:=cell_of (j:=0) s0 rfl
  have q1:=cell_of (j:=1) s0 rfl
  have q2:=cell_of (j:=2) s0 rfl
  have q3:=cell_of (j:=3) s0 rfl
  have q4:=cell_of (j:=4) s0 rfl
  have q5:=cell_of (j:=5) s0 rfl
  go_simp
  with_reducible rfl)
 refine tA 7 17 (bq 19 255) hHeld ?_ (hy:=by
  rintro w' ⟨s0,s1⟩
  have q0:=cell_of (j:=0) s1 rfl
  have q1:=cell_of (j:=1) s1 rfl
  have q2:=cell_of (j:=2) s1 rfl
  have q3:=cell_of (j:=3) s1 rfl
  have q4:=cell_of (j:=4) s1 rfl
  go_simp
  with_reducible rfl)
 refine join_ (σ:=(Option Addr×Nat×Option Addr×Nat×Nat×Nat)×Nat) 4 (bq 19 32767) (fun s=>match s with | ((B,d,A4,c4,lo1,hi1),gd)=>[(18,.tuple #[.slice B q.length d,.agg (fc y A4 c4),.bool is,.int .i64 k]),(9,.tuple #[.slice B q.length d,.agg (fc y A4 c4),.bool is,.int .i64 k]),(19,.slice B q.length d),(20,.agg (fc y A4 c4)),(21,.bool is),(22,.int .i64 k),(6,.pointer (some ⟨gd,0,none⟩))]) (fun s W=>match s with | ((B,d,A4,c4,lo1,hi1),gd)=>Below w.heap.size w W∧w.heap.size≤gd∧W.heap[gd]? = some (.cells zC 25 (0,0))∧q.length≤d∧Iv lo1 hi1 W (fun W=>Kd.C Kd.string W B q.length q)∧w.heap.size≤lo1∧hi1≤W.heap.size∧(gd<lo1∨hi1≤gd)∧y.files.length≤c4∧FileK.C w A4 y.files.length y.files) ?_ ?_
 rotate_left
 ·intro hc
  refine two_ (i:=8) (j:=14) (Ni:=some 18) (Nj:=some 6) (bq 19 511) (bq 19 16639) rfl rfl rfl rfl (by kernel_rfl) (by decide) (by decide) (fun K hK => ?_) (fun K hK => ?_)
  ·refine gA Tryz.func37 #[.agg (fc f.tree A c),.slice Ap x.p.length cp,.bool true] ?_
   refine ((show Calls Tryz.prog 37 #[.agg (fc f.tree A c),.slice Ap x.p.length cp,.bool true] _ _ from walk_calls f.tree A c Ap cp x.p true _ w ((bdrew (Below.refl w.heap.size w))) (HS.out w (Below.refl _ _)) hle (by omega) (I.out _ (bdrew (Below.refl w.heap.size w))).1 hcp (by omega) (by omega))).mono ?_
   rw [HU.out]
   rintro e w5 ⟨B,d,A4,c4,rfl,hd,hD,hc4,hC4,hq5⟩
   refine ⟨_,rfl,?_⟩
   refine hK.out _ _ (⟨(I.out _ ((bdrew (Below.refl w.heap.size w)).trans hq5)).2.2.1,(I.out _ ((bdrew (Below.refl w.heap.size w)).trans hq5)).2.1⟩) (fun _ => ?_)
   refine nA 18 ?_
   refine pA 9 9 (bq 19 1023) ?_
   refine pA 10 19 (bq 19 2047) ?_
   refine pA 11 20 (bq 19 4095) ?_
   refine pA 12 21 (bq 19 8191) ?_
   refine pA 13 22 (bq 19 16383) ?_
   refine eA 14 6 (bq 19 32767) (fun K hK => ?_)
   refine vA ?_
   refine hK.out _ _ (⟨(I.out _ (below_alloc ((bdrew (Below.refl w.heap.size w)).trans hq5) _)).2.2.1,(I.out _ (below_alloc ((bdrew (Below.refl w.heap.size w)).trans hq5) _)).2.1⟩) (fun _ => ?_)
   refine jA (hc ((B,d,A4,c4,w.drew.heap.size,w5.heap.size),w5.heap.size) _ (⟨below_alloc ((bdrew (Below.refl w.heap.size w)).trans hq5) _,((bdrew (Below.refl w.heap.size w)).trans hq5).size,blk_new w5 _,hd,Iv.mv hD fun k _ h2=>(below_alloc (Below.refl w5.heap.size w5) _).block k h2,(bdrew (Below.refl w.heap.size w)).size,(below_alloc (Below.refl w5.heap.size w5) _).size,.inr (Nat.le_refl _),hc4,hC4⟩))
  ·refine vA ?_
   refine hK.out _ _ (⟨(I.out _ (below_alloc (bdrew (Below.refl w.heap.size w)) (.cells zC 25))).2.2.1,(I.out _ (below_alloc (bdrew (Below.refl w.heap.size w)) (.cells zC 25))).2.1⟩) (fun _ => ?_)
   refine nA 6 ?_
   refine eA 8 18 (bq 19 16895) (fun K hK => ?_)
   refine gA Tryz.func37 #[.agg (fc f.tree A c),.slice Ap x.p.length cp,.bool true] ?_
   refine ((show Calls Tryz.prog 37 #[.agg (fc f.tree A c),.slice Ap x.p.length cp,.bool true] _ _ from walk_calls f.tree A c Ap cp x.p true _ w ((below_alloc (bdrew (Below.refl w.heap.size w)) (.cells zC 25))) (HS.out w (Below.refl _ _)) hle (by omega) (I.out _ (below_alloc (bdrew (Below.refl w.heap.size w)) (.cells zC 25))).1 hcp (by omega) (by omega))).mono ?_
   rw [HU.out]
   rintro e w5 ⟨B,d,A4,c4,rfl,hd,hD,hc4,hC4,hq5⟩
   refine ⟨_,rfl,?_⟩
   refine hK.out _ _ (⟨(I.out _ ((below_alloc (bdrew (Below.refl w.heap.size w)) (.cells zC 25)).trans (hq5.mono (below_alloc (Below.refl w.drew.heap.size w.drew) (.cells zC 25)).size))).2.2.1,(I.out _ ((below_alloc (bdrew (Below.refl w.heap.size w)) (.cells zC 25)).trans (hq5.mono (below_alloc (Below.refl w.drew.heap.size w.drew) (.cells zC 25)).size))).2.1⟩) (fun _ => ?_)
   refine nA 18 ?_
   refine pA 9 9 (bq 19 17407) ?_
   refine pA 10 19 (bq 19 18431) ?_
   refine pA 11 20 (bq 19 20479) ?_
   refine pA 12 21 (bq 19 24575) ?_
   refine pA 13 22 (bq 19 32767) ?_
   refine jA (hc ((B,d,A4,c4,(w.drew.alloc (.cells zC 25)).heap.size,w5.heap.size),w.heap.size) _ (⟨((below_alloc (bdrew (Below.refl w.heap.size w)) (.cells zC 25)).trans (hq5.mono (below_alloc (Below.refl w.drew.heap.size w.drew) (.cells zC 25)).size)),Nat.le_refl _,(hq5.block _ (blk_lt (blk_new w.drew (.cells zC 25)))).trans (blk_new w.drew (.cells zC 25)),hd,hD,(below_alloc (bdrew (Below.refl w.heap.size w)) (.cells zC 25)).size,Nat.le_refl _,.inl (blk_lt (blk_new w.drew (.cells zC 25))),hc4,hC4⟩))
 ·rintro ⟨⟨B,d,A4,c4,lo1,hi1⟩,gd⟩ W hF
  refine uA ?_
  obtain ⟨hbW,hgd,hzz,hd,hD,hlo1,hhi1,hsp,hc4,hC4⟩:=hF
  have hHeld:=(show W.heap[g]? = some (.cells #[.string f.tree.name,.int .u8 f.tree.kind,.string f.tree.data,.slice A f.tree.files.length c,v,.map (some m)] 68 (0,0))∧W.heap[r]? = some (.cells #[.slice Ap x.p.length cp,.slice Ad x.dest.length cd,.string x.data,.int .u8 0,.int .i64 0] 97 (0,0)) from ⟨(I.out _ hbW).2.2.1,(I.out _ hbW).2.1⟩)
  refine pA 15 5 (bq 19 65535) ?_
  refine last_ (i:=16) (N:=none) (bq 19 131071) rfl rfl (by kernel_rfl) (by decide) (fun K hK => ?_)
  obtain ⟨zc0,zc1,zc2,zc3⟩:=c4A hzz
  obtain ⟨zu0,zu1,zu2,zu3⟩:=u4A hzz
  refine sA ?_
  refine hK.out _ _ ?_
  refine pA 17 7 (bq 19 262143) ?_
  refine pA 18 8 (bq 19 524287) ?_
  refine done_ (by kernel_rfl) ?_
  have hq6:=store4_below hbW (g:=gd) hgd (.string y.name) (.int .u8 y.kind) (.string y.data) (.slice A4 y.files.length c4)
  have hd6:=store4_box hzz (.string y.name) (.int .u8 y.kind) (.string y.data) (.slice A4 y.files.length c4)
  replace I:=Lib.hid (Hd.mv I.out hq6)
  replace I:=Lib.hid (Hd.and I.out (Hd.box (hd6)))
  have hIV6:=Lib.hid (hD.mv (w':=((((W.setCell ⟨gd,0,none⟩ (.string y.name)).setCell ⟨gd,1,none⟩ (.int .u8 y.kind)).setCell ⟨gd,2,none⟩ (.string y.data)).setCell ⟨gd,3,none⟩ (.slice A4 y.files.length c4))) fun k h1 h2=>store4_other W (g:=gd) (by omega) _ _ _ _)
  have HCY:=Lib.hid hC4
  have hsz6:((((W.setCell ⟨gd,0,none⟩ (.string y.name)).setCell ⟨gd,1,none⟩ (.int .u8 y.kind)).setCell ⟨gd,2,none⟩ (.string y.data)).setCell ⟨gd,3,none⟩ (.slice A4 y.files.length c4)).heap.size=W.heap.size:=by simp [World.setCell]
  have hhi6:hi1≤((((W.setCell ⟨gd,0,none⟩ (.string y.name)).setCell ⟨gd,1,none⟩ (.int .u8 y.kind)).setCell ⟨gd,2,none⟩ (.string y.data)).setCell ⟨gd,3,none⟩ (.slice A4 y.files.length c4)).heap.size:=by omega
  clear zc0 zc1 zc2 zc3 zu0 zu1 zu2 zu3 hHeld hK hd6 hD hC4 hsz6 hzz hsp hhi1
  generalize ((((W.setCell ⟨gd,0,none⟩ (.string y.name)).setCell ⟨gd,1,none⟩ (.int .u8 y.kind)).setCell ⟨gd,2,none⟩ (.string y.data)).setCell ⟨gd,3,none⟩ (.slice A4 y.files.length c4))=W6 at *
  have hbw6:=I.out.now.2.2.2.2
  have HFS6:=Lib.hid (HFS0.out.below hbw6)
  have hs6:=hbw6.size
  have HR1:=HR.out
  unfold createR at HR1
  rw [HU.out] at HR1
  simp only at HR1
  replace HR1:=Lib.hid HR1
  have HRQ:=Lib.hid I.out.now.2.2.1
  clear HR
  by_cases hk:k=0
  rotate_left
  ·skip
   have HR2:=HR1.out
   rw [if_neg hk] at HR2
   replace HR2:=Lib.hid HR2
   have k1:(k != 0)=true:=by rw [bne_iff_ne];exact hk
   have k1e:(k == 0)=false:=beq_eq_false_iff_ne.2 hk
   clear hk
   go_wp2_with fail
   go_ret
   rw [← HR2.out]
   exact ⟨rfl,HFS6.out.mono (fun k h=>.inl h) (fun k h=>h.elim (fun h=>HFS6.out.lts k h) fun h=>h.2),HRQ.out,Only.of_belowV hbw6 _⟩
  ·skip
   subst hk
   have HR2:=HR1.out
   rw [if_pos rfl] at HR2
   replace HR2:=Lib.hid HR2
   cases is
   ·skip
    have HR4:=HR2.out
    rw [if_neg (fun h=>absurd h.1 (by decide))] at HR4
    replace HR4:=Lib.hid HR4
    have hqs:=walk_sum f.tree x.p true
    have hyb:=walk_bulk f.tree x.p true
    rw [HU.out] at hqs hyb
    simp only at hqs hyb
    have hql:=P.sumP_len q
    have HQN:Hid (∀ n∈q,n.size≤1000000000):=Lib.hid fun n hn=>by have:=sumP_in hn;omega
    have hyd:=bulk_eq y
    have HTB:Hid ((textF ⟨#[]⟩).bulk≤1000000000):=Lib.hid (by
     rw [textF_bulk]
     have h1:(⟨#[]⟩:ByteArray).size=0:=rfl
     omega)
    have HFSM:=Lib.hid (show FsAt W6 g (fun k=>O k∨w.heap.size≤k∧k<W6.heap.size) tb f from HFS6.out.mono (fun k h=>.inl h) (fun k h=>h.elim (fun h=>HFS6.out.lts k h) fun h=>h.2))
    have hhq:hi1≤W6.heap.size:=hhi6
    have HYX:Hid (¬ 9223372036854775807<y.data.size+x.data.size):=Lib.hid (by omega)
    clear hyd
    go_wp2_with fail
    refine (show Calls Tryz.prog 112 #[.pointer (some ⟨g,0,none⟩),.slice B q.length d,.agg #[.string ⟨#[]⟩,.int .u8 2,.string ⟨#[]⟩,.slice none 0 0]] _ _ from put_calls_fs _ g (fun k=>O k∨w.heap.size≤k∧k<W6.heap.size) tb f B d q (textF ⟨#[]⟩) none 0 ((HFSM.out).below (Below.refl W6.heap.size W6)) (by omega) (hIV6.out.mv fun k _ h2=>((Below.refl W6.heap.size W6)).block k (by omega)).now hd (by omega) HQN.out (Kd.C_nil FileK _) (Nat.le_refl _) HTB.out).mono ?_
    rintro e w9 ⟨rfl,hfs9,ho9⟩
    have hr9:=ho9.block r (Nat.lt_of_lt_of_le hrl hs6) hrg
    go_wp2_with fail
    go_ret
    rw [← HR4.out]
    have ho6:Only (fun k=>k=g) W6 w9:=⟨ho9.os,ho9.tape,ho9.output,ho9.size,ho9.block⟩
    have hs9:=ho6.size
    exact ⟨rfl,hfs9.mono (fun k h=>h.elim (fun h=>h.elim .inl fun h=>.inr ⟨h.1,by omega⟩) fun h=>.inr ⟨Nat.le_trans hs6 h.1,h.2⟩) (fun k h=>h.elim (fun h=>Nat.lt_of_lt_of_le (HFS6.out.lts k h) hs9) fun h=>h.2),hr9.trans HRQ.out,(Only.of_belowV hbw6 (fun k=>k=g∨k=r)).trans ho6 (fun _ _ h=>h) (fun _ _ h=>.inl h)⟩
   ·skip
    by_cases hy:y.kind=1
    ·skip
     have HR4:=HR2.out
     rw [if_pos ⟨rfl,hy⟩] at HR4
     replace HR4:=Lib.hid HR4
     have k2:(y.kind == 1)=true:=beq_iff_eq.2 hy
     clear hy
     obtain ⟨ly0,ly1,ly2,ly3⟩:=c4A I.out.now.1
     go_wp2_with fail
     go_ret
     rw [← HR4.out]
     exact ⟨rfl,HFS6.out.mono (fun k h=>.inl h) (fun k h=>h.elim (fun h=>HFS6.out.lts k h) fun h=>h.2),HRQ.out,Only.of_belowV hbw6 _⟩
    ·skip
     have HR4:=HR2.out
     rw [if_neg (fun h=>hy h.2)] at HR4
     replace HR4:=Lib.hid HR4
     have k2:(y.kind == 1)=false:=beq_eq_false_iff_ne.2 hy
     clear hy
     obtain ⟨ly0,ly1,ly2,ly3⟩:=c4A I.out.now.1
     have hqs:=walk_sum f.tree x.p true
     have hyb:=walk_bulk f.tree x.p true
     rw [HU.out] at hqs hyb
     simp only at hqs hyb
     have hql:=P.sumP_len q
     have HQN:Hid (∀ n∈q,n.size≤1000000000):=Lib.hid fun n hn=>by have:=sumP_in hn;omega
     have hyd:=bulk_eq y
     have HTB:Hid ((textF ⟨#[]⟩).bulk≤1000000000):=Lib.hid (by
      rw [textF_bulk]
      have h1:(⟨#[]⟩:ByteArray).size=0:=rfl
      omega)
     have HFSM:=Lib.hid (show FsAt W6 g (fun k=>O k∨w.heap.size≤k∧k<W6.heap.size) tb f from HFS6.out.mono (fun k h=>.inl h) (fun k h=>h.elim (fun h=>HFS6.out.lts k h) fun h=>h.2))
     have hhq:hi1≤W6.heap.size:=hhi6
     have HYX:Hid (¬ 9223372036854775807<y.data.size+x.data.size):=Lib.hid (by omega)
     clear hyd
     go_wp2_with fail
     refine (show Calls Tryz.prog 112 #[.pointer (some ⟨g,0,none⟩),.slice B q.length d,.agg #[.string ⟨#[]⟩,.int .u8 2,.string ⟨#[]⟩,.slice none 0 0]] _ _ from put_calls_fs _ g (fun k=>O k∨w.heap.size≤k∧k<W6.heap.size) tb f B d q (textF ⟨#[]⟩) none 0 ((HFSM.out).below (Below.refl W6.heap.size W6)) (by omega) (hIV6.out.mv fun k _ h2=>((Below.refl W6.heap.size W6)).block k (by omega)).now hd (by omega) HQN.out (Kd.C_nil FileK _) (Nat.le_refl _) HTB.out).mono ?_
     rintro e w9 ⟨rfl,hfs9,ho9⟩
     have hr9:=ho9.block r (Nat.lt_of_lt_of_le hrl hs6) hrg
     go_wp2_with fail
     go_ret
     rw [← HR4.out]
     have ho6:Only (fun k=>k=g) W6 w9:=⟨ho9.os,ho9.tape,ho9.output,ho9.size,ho9.block⟩
     have hs9:=ho6.size
     exact ⟨rfl,hfs9.mono (fun k h=>h.elim (fun h=>h.elim .inl fun h=>.inr ⟨h.1,by omega⟩) fun h=>.inr ⟨Nat.le_trans hs6 h.1,h.2⟩) (fun k h=>h.elim (fun h=>Nat.lt_of_lt_of_le (HFS6.out.lts k h) hs9) fun h=>h.2),hr9.trans HRQ.out,(Only.of_belowV hbw6 (fun k=>k=g∨k=r)).trans ho6 (fun _ _ h=>h) (fun _ _ h=>.inl h)⟩
end Go.Proofs.YthlcjjhfkldmhaaGreatDoor.G
end
section
section
namespace Go.Proofs.YthlcjjhfkldmhaaGreatDoor.G
open Go.RowKit Go.Lib Go.Proofs.YthlcjjhfkldmhaaGreatDoorW.PrintWords Go.Proofs.YthlcjjhfkldmhaaGreatDoorW.PrintLast
set_option linter.unusedVariables false
set_option linter.unusedSimpArgs false
set_option maxHeartbeats 8000000 in
set_option maxRecDepth 100000 in
theorem lstat_fs (w:World) (g r:Nat) (O:Nat→Prop) (tb:Option Nat) (f:FsV) (x:Req) (Ap:Option Addr) (cp:Nat) (Ad:Option Addr) (cd:Nat) (hfs:FsAt w g O tb f) (hreq:w.heap[r]? = some (.cells #[.slice Ap x.p.length cp,.slice Ad x.dest.length cd,.string x.data,.int .u8 0,.int .i64 0] 97 (0,0))) (hrg:r≠g) (hrO:¬ O r) (hbt:f.tree.bulk≤100000000) (hp:Kd.C Kd.string w Ap x.p.length x.p) (hcp:x.p.length≤cp) (hps:P.sumP x.p≤1024) (hdb:x.data.size≤100000000) :
  Calls Tryz.prog 96 #[.pointer (some ⟨g,0,none⟩),.pointer (some ⟨r,0,none⟩)] w fun e w'=>OpPost w g r O tb f x Ap cp Ad cd (lstatR f.tree x) e w':=by
 have HFS0:=Lib.hid hfs
 obtain ⟨A,c,v,m,lo,hi,hbox,hle,hiv,hsep,htr,htb,hfl,hOm,hOlt⟩:=hfs
 unfold fsCells at hbox
 have hgl:=blk_lt hbox
 have hrl:=blk_lt hreq
 have HS:=Lib.hid (fun W (h:Below w.heap.size w W)=>hiv W fun k h1 h2=>h.block k (hOlt k (hsep k h1 h2).1))
 have hlen:=P.sumP_len x.p
 have hb0:=Below.refl w.heap.size w
 have I:=Lib.hid (Hd.base hb0 (by first | exact Nat.le_refl _ | exact Below.size hb0))
 replace I:=Lib.hid (Hd.and I.out (Hd.box hbox))
 replace I:=Lib.hid (Hd.and I.out (Hd.box hreq))
 replace I:=Lib.hid (Hd.and I.out (Hd.reads (hp)))
 obtain ⟨⟨q,y,is,k⟩,hu⟩:∃ r,walkR f.tree x.p false=r:=⟨_,rfl⟩
 have HU:=Lib.hid hu
 have HRES:=Lib.hid (show lstatR f.tree x=lstatR f.tree x from rfl)
 obtain ⟨res,hres⟩:∃ r,lstatR f.tree x=r:=⟨_,rfl⟩
 have HR:=Lib.hid (show _=res from hres)
 rw [hres]
 clear hu hres HRES hiv hsep htr hfl hOm hOlt hp hbox htb hreq
 go_enter Tryz.func96,Tryz.ntmps96
 go_wp2_with fail
 refine start_ (n:=19) (S:=fun w'=>w'.heap[g]? = some (.cells #[.string f.tree.name,.int .u8 f.tree.kind,.string f.tree.data,.slice A f.tree.files.length c,v,.map (some m)] 68 (0,0))∧w'.heap[r]? = some (.cells #[.slice Ap x.p.length cp,.slice Ad x.dest.length cd,.string x.data,.int .u8 0,.int .i64 0] 97 (0,0))) (ds:=[16]) (bq 19 0) (by kernel_rfl) rfl rfl ⟨(I.out _ (bdrew (Below.refl w.heap.size w))).2.2.1,(I.out _ (bdrew (Below.refl w.heap.size w))).2.1⟩ (fun hHeld => ?_)
 refine pA 0 10 (bq 19 1) ?_
 refine pA 1 11 (bq 19 3) ?_
 refine pA 2 12 (bq 19 7) ?_
 refine pA 4 14 (bq 19 23) ?_
 refine pA 5 15 (bq 19 55) ?_
 refine pA 6 16 (bq 19 119) ?_
 refine tA 3 13 (bq 19 127) hHeld ?_ (hy:=by
  rintro w' ⟨s0,s1⟩
  have q0:=cell_of (j:=0) s0 rfl
  have q1:=cell_of (j:=1) s0 rfl
  have q2:=cell_of (j:=2) s0 rfl
  have q3:=cell_of (j:=3) s0 rfl
  have q4:=cell_of (j:=4) s0 rfl
  have q5:=cell_of (j:=5) s0 rfl
  go_simp
  with_reducible rfl)
 refine tA 7 17 (bq 19 255) hHeld ?_ (hy:=by
  rintro w' ⟨s0,s1⟩
  have q0:=cell_of (j:=0) s1 rfl
  have q1:=cell_of (j:=1) s1 rfl
  have q2:=cell_of (j:=2) s1 rfl
  have q3:=cell_of (j:=3) s1 rfl
  have q4:=cell_of (j:=4) s1 rfl
  go_simp
  with_reducible rfl)
 refine join_ (σ:=(Option Addr×Nat×Option Addr×Nat×Nat×Nat)×Nat) 4 (bq 19 32767) (fun s=>match s with | ((B,d,A4,c4,lo1,hi1),gd)=>[(18,.tuple #[.slice B q.length d,.agg (fc y A4 c4),.bool is,.int .i64 k]),(9,.tuple #[.slice B q.length d,.agg (fc y A4 c4),.bool is,.int .i64 k]),(19,.slice B q.length d),(20,.agg (fc y A4 c4)),(21,.bool is),(22,.int .i64 k),(6,.pointer (some ⟨gd,0,none⟩))]) (fun s W=>match s with | ((B,d,A4,c4,lo1,hi1),gd)=>Below w.heap.size w W∧w.heap.size≤gd∧W.heap[gd]? = some (.cells zC 25 (0,0))∧q.length≤d∧Iv lo1 hi1 W (fun W=>Kd.C Kd.string W B q.length q)∧w.heap.size≤lo1∧hi1≤W.heap.size∧(gd<lo1∨hi1≤gd)∧y.files.length≤c4∧FileK.C w A4 y.files.length y.files) ?_ ?_
 rotate_left
 ·intro hc
  refine two_ (i:=8) (j:=14) (Ni:=some 18) (Nj:=some 6) (bq 19 511) (bq 19 16639) rfl rfl rfl rfl (by kernel_rfl) (by decide) (by decide) (fun K hK => ?_) (fun K hK => ?_)
  ·refine gA Tryz.func37 #[.agg (fc f.tree A c),.slice Ap x.p.length cp,.bool false] ?_
   refine ((show Calls Tryz.prog 37 #[.agg (fc f.tree A c),.slice Ap x.p.length cp,.bool false] _ _ from walk_calls f.tree A c Ap cp x.p false _ w ((bdrew (Below.refl w.heap.size w))) (HS.out w (Below.refl _ _)) hle (by omega) (I.out _ (bdrew (Below.refl w.heap.size w))).1 hcp (by omega) (by omega))).mono ?_
   rw [HU.out]
   rintro e w5 ⟨B,d,A4,c4,rfl,hd,hD,hc4,hC4,hq5⟩
   refine ⟨_,rfl,?_⟩
   refine hK.out _ _ (⟨(I.out _ ((bdrew (Below.refl w.heap.size w)).trans hq5)).2.2.1,(I.out _ ((bdrew (Below.refl w.heap.size w)).trans hq5)).2.1⟩) (fun _ => ?_)
   refine nA 18 ?_
   refine pA 9 9 (bq 19 1023) ?_
   refine pA 10 19 (bq 19 2047) ?_
   refine pA 11 20 (bq 19 4095) ?_
   refine pA 12 21 (bq 19 8191) ?_
   refine pA 13 22 (bq 19 16383) ?_
   refine eA 14 6 (bq 19 32767) (fun K hK => ?_)
   refine vA ?_
   refine hK.out _ _ (⟨(I.out _ (below_alloc ((bdrew (Below.refl w.heap.size w)).trans hq5) _)).2.2.1,(I.out _ (below_alloc ((bdrew (Below.refl w.heap.size w)).trans hq5) _)).2.1⟩) (fun _ => ?_)
   refine jA (hc ((B,d,A4,c4,w.drew.heap.size,w5.heap.size),w5.heap.size) _ (⟨below_alloc ((bdrew (Below.refl w.heap.size w)).trans hq5) _,((bdrew (Below.refl w.heap.size w)).trans hq5).size,blk_new w5 _,hd,Iv.mv hD fun k _ h2=>(below_alloc (Below.refl w5.heap.size w5) _).block k h2,(bdrew (Below.refl w.heap.size w)).size,(below_alloc (Below.refl w5.heap.size w5) _).size,.inr (Nat.le_refl _),hc4,hC4⟩))
  ·refine vA ?_
   refine hK.out _ _ (⟨(I.out _ (below_alloc (bdrew (Below.refl w.heap.size w)) (.cells zC 25))).2.2.1,(I.out _ (below_alloc (bdrew (Below.refl w.heap.size w)) (.cells zC 25))).2.1⟩) (fun _ => ?_)
   refine nA 6 ?_
   refine eA 8 18 (bq 19 16895) (fun K hK => ?_)
   refine gA Tryz.func37 #[.agg (fc f.tree A c),.slice Ap x.p.length cp,.bool false] ?_
   refine ((show Calls Tryz.prog 37 #[.agg (fc f.tree A c),.slice Ap x.p.length cp,.bool false] _ _ from walk_calls f.tree A c Ap cp x.p false _ w ((below_alloc (bdrew (Below.refl w.heap.size w)) (.cells zC 25))) (HS.out w (Below.refl _ _)) hle (by omega) (I.out _ (below_alloc (bdrew (Below.refl w.heap.size w)) (.cells zC 25))).1 hcp (by omega) (by omega))).mono ?_
   rw [HU.out]
   rintro e w5 ⟨B,d,A4,c4,rfl,hd,hD,hc4,hC4,hq5⟩
   refine ⟨_,rfl,?_⟩
   refine hK.out _ _ (⟨(I.out _ ((below_alloc (bdrew (Below.refl w.heap.size w)) (.cells zC 25)).trans (hq5.mono (below_alloc (Below.refl w.drew.heap.size w.drew) (.cells zC 25)).size))).2.2.1,(I.out _ ((below_alloc (bdrew (Below.refl w.heap.size w)) (.cells zC 25)).trans (hq5.mono (below_alloc (Below.refl w.drew.heap.size w.drew) (.cells zC 25)).size))).2.1⟩) (fun _ => ?_)
   refine nA 18 ?_
   refine pA 9 9 (bq 19 17407) ?_
   refine pA 10 19 (bq 19 18431) ?_
   refine pA 11 20 (bq 19 20479) ?_
   refine pA 12 21 (bq 19 24575) ?_
   refine pA 13 22 (bq 19 32767) ?_
   refine jA (hc ((B,d,A4,c4,(w.drew.alloc (.cells zC 25)).heap.size,w5.heap.size),w.heap.size) _ (⟨((below_alloc (bdrew (Below.refl w.heap.size w)) (.cells zC 25)).trans (hq5.mono (below_alloc (Below.refl w.drew.heap.size w.drew) (.cells zC 25)).size)),Nat.le_refl _,(hq5.block _ (blk_lt (blk_new w.drew (.cells zC 25)))).trans (blk_new w.drew (.cells zC 25)),hd,hD,(below_alloc (bdrew (Below.refl w.heap.size w)) (.cells zC 25)).size,Nat.le_refl _,.inl (blk_lt (blk_new w.drew (.cells zC 25))),hc4,hC4⟩))
 ·rintro ⟨⟨B,d,A4,c4,lo1,hi1⟩,gd⟩ W hF
  refine uA ?_
  obtain ⟨hbW,hgd,hzz,hd,hD,hlo1,hhi1,hsp,hc4,hC4⟩:=hF
  have hHeld:=(show W.heap[g]? = some (.cells #[.string f.tree.name,.int .u8 f.tree.kind,.string f.tree.data,.slice A f.tree.files.length c,v,.map (some m)] 68 (0,0))∧W.heap[r]? = some (.cells #[.slice Ap x.p.length cp,.slice Ad x.dest.length cd,.string x.data,.int .u8 0,.int .i64 0] 97 (0,0)) from ⟨(I.out _ hbW).2.2.1,(I.out _ hbW).2.1⟩)
  refine pA 15 5 (bq 19 65535) ?_
  refine last_ (i:=16) (N:=none) (bq 19 131071) rfl rfl (by kernel_rfl) (by decide) (fun K hK => ?_)
  obtain ⟨zc0,zc1,zc2,zc3⟩:=c4A hzz
  obtain ⟨zu0,zu1,zu2,zu3⟩:=u4A hzz
  refine sA ?_
  refine hK.out _ _ ?_
  refine pA 17 7 (bq 19 262143) ?_
  refine pA 18 8 (bq 19 524287) ?_
  refine done_ (by kernel_rfl) ?_
  have hq6:=store4_below hbW (g:=gd) hgd (.string y.name) (.int .u8 y.kind) (.string y.data) (.slice A4 y.files.length c4)
  have hd6:=store4_box hzz (.string y.name) (.int .u8 y.kind) (.string y.data) (.slice A4 y.files.length c4)
  replace I:=Lib.hid (Hd.mv I.out hq6)
  replace I:=Lib.hid (Hd.and I.out (Hd.box (hd6)))
  have hIV6:=Lib.hid (hD.mv (w':=((((W.setCell ⟨gd,0,none⟩ (.string y.name)).setCell ⟨gd,1,none⟩ (.int .u8 y.kind)).setCell ⟨gd,2,none⟩ (.string y.data)).setCell ⟨gd,3,none⟩ (.slice A4 y.files.length c4))) fun k h1 h2=>store4_other W (g:=gd) (by omega) _ _ _ _)
  have HCY:=Lib.hid hC4
  have hsz6:((((W.setCell ⟨gd,0,none⟩ (.string y.name)).setCell ⟨gd,1,none⟩ (.int .u8 y.kind)).setCell ⟨gd,2,none⟩ (.string y.data)).setCell ⟨gd,3,none⟩ (.slice A4 y.files.length c4)).heap.size=W.heap.size:=by simp [World.setCell]
  have hhi6:hi1≤((((W.setCell ⟨gd,0,none⟩ (.string y.name)).setCell ⟨gd,1,none⟩ (.int .u8 y.kind)).setCell ⟨gd,2,none⟩ (.string y.data)).setCell ⟨gd,3,none⟩ (.slice A4 y.files.length c4)).heap.size:=by omega
  clear zc0 zc1 zc2 zc3 zu0 zu1 zu2 zu3 hHeld hK hd6 hD hC4 hsz6 hzz hsp hhi1
  generalize ((((W.setCell ⟨gd,0,none⟩ (.string y.name)).setCell ⟨gd,1,none⟩ (.int .u8 y.kind)).setCell ⟨gd,2,none⟩ (.string y.data)).setCell ⟨gd,3,none⟩ (.slice A4 y.files.length c4))=W6 at *
  have hbw6:=I.out.now.2.2.2.2
  have HFS6:=Lib.hid (HFS0.out.below hbw6)
  have hs6:=hbw6.size
  have HR1:=HR.out
  unfold lstatR at HR1
  rw [HU.out] at HR1
  simp only at HR1
  replace HR1:=Lib.hid HR1
  have HRQ:=Lib.hid I.out.now.2.2.1
  clear HR
  by_cases hk:k=0
  rotate_left
  ·skip
   have HR2:=HR1.out
   rw [if_neg hk] at HR2
   replace HR2:=Lib.hid HR2
   have k1:(k != 0)=true:=by rw [bne_iff_ne];exact hk
   have k1e:(k == 0)=false:=beq_eq_false_iff_ne.2 hk
   clear hk
   go_wp2_with fail
   go_ret
   rw [← HR2.out]
   exact ⟨rfl,HFS6.out.mono (fun k h=>.inl h) (fun k h=>h.elim (fun h=>HFS6.out.lts k h) fun h=>h.2),HRQ.out,Only.of_belowV hbw6 _⟩
  ·skip
   subst hk
   have HR2:=HR1.out
   rw [if_pos rfl] at HR2
   replace HR2:=Lib.hid HR2
   cases is
   ·skip
    have HR3:=HR2.out
    rw [if_neg (by decide)] at HR3
    replace HR3:=Lib.hid HR3
    go_wp2_with fail
    go_ret
    rw [← HR3.out]
    exact ⟨rfl,HFS6.out.mono (fun k h=>.inl h) (fun k h=>h.elim (fun h=>HFS6.out.lts k h) fun h=>h.2),HRQ.out,Only.of_belowV hbw6 _⟩
   ·skip
    have HR4:=HR2.out
    rw [if_pos rfl] at HR4
    replace HR4:=Lib.hid HR4
    obtain ⟨ly0,ly1,ly2,ly3⟩:=c4A I.out.now.1
    have zr3:=cell_of (j:=3) HRQ.out rfl
    have ur3:=unfr HRQ.out 3
    have zr4:=cell_of (j:=4) HRQ.out rfl
    have ur4:=unfr HRQ.out 4
    go_wp2_with fail
    go_ret
    rw [← HR4.out]
    have hne:∀ k,k=g∨O k→k≠r:=fun k h e=>h.elim (fun h=>hrg (e.symm.trans h)) fun h=>hrO (e ▸ h)
    have hkp:FsAt ((W6.setCell ⟨r,3,none⟩ (.int .u8 y.kind)).setCell ⟨r,4,none⟩ (.int .i64 y.data.size)) g O tb f:=(HFS6.out.keep (fun k h=>Below.heap_setCell _ _ _ _ (hne k h)) (by simp [World.setCell])).keep (fun k h=>Below.heap_setCell _ _ _ _ (hne k h)) (by simp [World.setCell])
    exact ⟨rfl,hkp.mono (fun k h=>.inl h) (fun k h=>h.elim (fun h=>hkp.lts k h) fun h=>h.2),blk_put (blk_put HRQ.out 3 (.int .u8 y.kind) rfl) 4 (.int .i64 y.data.size) rfl,((Only.of_belowV hbw6 (fun k=>k=g∨k=r)).trans (Only.setCell W6 ⟨r,3,none⟩ (.int .u8 y.kind)) (fun _ _ h=>h) (fun _ _ h=>.inr h)).trans (Only.setCell _ ⟨r,4,none⟩ (.int .i64 y.data.size)) (fun _ _ h=>h) (fun _ _ h=>.inr h)⟩
end Go.Proofs.YthlcjjhfkldmhaaGreatDoor.G
end
section
namespace Go.Proofs.YthlcjjhfkldmhaaGreatDoor.G
open Go.RowKit Go.Lib Go.Proofs.YthlcjjhfkldmhaaGreatDoorW.PrintWords Go.Proofs.YthlcjjhfkldmhaaGreatDoorW.PrintLast
set_option linter.unusedVariables false
theorem toList_injV {x y:ByteArray}:x.toList=y.toList↔x=y:=by
 rw [Lib.toList_data,Lib.toList_data]
 constructor
 ·intro h
  exact ByteArray.ext (Array.toList_inj.1 h)
 ·rintro rfl;rfl
def AlikeV (a b:List ByteArray) (k:Nat):Prop:=∀ j:Nat,j<k→rdOf ByteArray.empty a (j:Int)=rdOf ByteArray.empty b (j:Int)
theorem AlikeV.all {a b:List ByteArray} (hl:a.length=b.length) (h:AlikeV a b a.length):a=b :=
 List.ext_getElem hl fun j h1 h2=>by
  have h3:=h j h1
  simpa [rdOf,h1,h2] using h3
theorem AlikeV.not {a b:List ByteArray} {k:Nat} (h:rdOf ByteArray.empty a (k:Int)≠rdOf ByteArray.empty b (k:Int)):¬ a=b:=fun e=>h (by rw [e])
set_option maxHeartbeats 4000000 in
theorem eqP_calls (A:Option Addr) (c:Nat) (a:List ByteArray) (B:Option Addr) (d:Nat) (b:List ByteArray) (w:World) (hr:Kd.C Kd.string w A a.length a) (hc:a.length≤c) (hs:Kd.C Kd.string w B b.length b) (hd:b.length≤d) (hl:a.length≤8796093022208) :
  Calls Tryz.prog 113 #[.slice A a.length c,.slice B b.length d] w fun e w'=>e=.returned (.bool (decide (a=b)))∧∃ n,w'=w.drewN n:=by
 have HR:=Lib.hid hr
 have HS:=Lib.hid hs
 by_cases hab:a.length=b.length
 ·have HE:=Lib.hid hab
  have hk2:a.length≤b.length:=Nat.le_of_eq hab
  rw [← hab]
  clear hr hs hab
  go_enter Tryz.func113,Tryz.ntmps113
  go_wp2
  go_loopw [13] (fun i wr=>∃ k n:Nat,k≤a.length∧i=.int .i64 k∧wr=w.drewN n∧Hid (AlikeV a b k)) (fun i _=>a.length - (RowKit.intOf i).toNat)
  case atStart=>exact ⟨0,0,by omega,rfl,rfl,Lib.hid (fun j hj=>by omega)⟩
  case round =>
   obtain ⟨k,n,hk1,rfl,rfl,HA⟩:=hrel
   by_cases q1:k<a.length
   ·have z1:decide ((k:Int)<(a.length:Int))=true:=decide_eq_true (by omega)
    obtain ⟨ad,rfl,hx⟩:=Kd.at_string HR.out (k:Int) (by omega) (by omega)
    obtain ⟨bd,rfl,hy⟩:=Kd.at_string HS.out (k:Int) (by omega) (by omega)
    rw [Int.toNat_natCast] at hx hy
    obtain ⟨x,hxe⟩:∃ x,rdOf ByteArray.empty a (k:Int)=x:=⟨_,rfl⟩
    obtain ⟨y,hye⟩:∃ y,rdOf ByteArray.empty b (k:Int)=y:=⟨_,rfl⟩
    rw [hxe] at hx
    rw [hye] at hy
    have HX:=Lib.hid hxe
    have HY:=Lib.hid hye
    clear hxe hye
    by_cases q3:x=y
    ·have z3:(x.toList == y.toList)=true:=beq_iff_eq.2 (toList_injV.2 q3)
     have H3:=Lib.hid q3
     clear q3
     go_wp2
     go_quiet (fail)
     go_wp2
     go_roundw
     case rel=>exact ⟨k+1,_,by omega,by go_num,by first | rfl | (simp only [World.drewN_drewN];rfl),Lib.hid (fun j hj=>by
      by_cases e:j=k
      ·subst e;rw [HX.out,HY.out];exact H3.out
      ·exact HA.out j (by omega))⟩
     case measure=>simp [RowKit.intOf];omega
    ·have z3:(x.toList == y.toList)=false:=beq_eq_false_iff_ne.2 (fun h=>q3 (toList_injV.1 h))
     have H3:=Lib.hid q3
     clear q3
     go_wp2
     go_quiet (fail)
     go_wp2
     go_ret
     exact ⟨by rw [decide_eq_false (AlikeV.not (k:=k) (by rw [HX.out,HY.out];exact H3.out))];rfl,_,by first | rfl | (simp only [World.drewN_drewN];rfl)⟩
   ·have z1:decide ((k:Int)<(a.length:Int))=false:=decide_eq_false (by omega)
    have hkk:k=a.length:=by omega
    have HK:=Lib.hid hkk
    clear hkk
    go_wp2
    go_ret
    exact ⟨by rw [decide_eq_true (AlikeV.all HE.out (by have:=HA.out;rw [HK.out] at this;exact this))];rfl,_,by first | rfl | (simp only [World.drewN_drewN];rfl)⟩
 ·have hnm:¬ (a.length:Int)=(b.length:Int):=by omega
  have HN:=Lib.hid (show ¬ a=b from fun e=>hab (by rw [e]))
  clear hr hs hab
  go_enter Tryz.func113,Tryz.ntmps113
  go_wp2
  go_ret
  exact ⟨by rw [decide_eq_false HN.out];rfl,0,rfl⟩
theorem eqP_below (A:Option Addr) (c:Nat) (a:List ByteArray) (B:Option Addr) (d:Nat) (b:List ByteArray) (w:World) (hr:Kd.C Kd.string w A a.length a) (hc:a.length≤c) (hs:Kd.C Kd.string w B b.length b) (hd:b.length≤d) (hl:a.length≤8796093022208) :
  Calls Tryz.prog 113 #[.slice A a.length c,.slice B b.length d] w fun e w'=>e=.returned (.bool (decide (a=b)))∧Below w.heap.size w w' :=
 (eqP_calls A c a B d b w hr hc hs hd hl).mono (by
  rintro e w' ⟨h1,n,rfl⟩
  exact ⟨h1,bdrewN (Below.refl _ _) n⟩)
end Go.Proofs.YthlcjjhfkldmhaaGreatDoor.G
end
end
section
namespace Go.Proofs.YthlcjjhfkldmhaaGreatDoor.G
open Go.RowKit Go.Lib Go.Proofs.YthlcjjhfkldmhaaGreatDoorW.PrintWords Go.Proofs.YthlcjjhfkldmhaaGreatDoorW.PrintLast
set_option linter.unusedVariables false
set_option linter.unusedSimpArgs false
set_option maxHeartbeats 8000000 in
set_option maxRecDepth 100000 in
theorem rename_fs (w:World) (g r:Nat) (O:Nat→Prop) (tb:Option Nat) (f:FsV) (x:Req) (Ap:Option Addr) (cp:Nat) (Ad:Option Addr) (cd:Nat) (hfs:FsAt w g O tb f) (hreq:w.heap[r]? = some (.cells #[.slice Ap x.p.length cp,.slice Ad x.dest.length cd,.string x.data,.int .u8 0,.int .i64 0] 97 (0,0))) (hrg:r≠g) (hrO:¬ O r) (hbt:f.tree.bulk≤100000000) (hp:Kd.C Kd.string w Ap x.p.length x.p) (hcp:x.p.length≤cp) (hps:P.sumP x.p≤1024) (hpd:Kd.C Kd.string w Ad x.dest.length x.dest) (hcd:x.dest.length≤cd) (hpt:P.sumP x.dest≤1024) (hdb:x.data.size≤100000000) :
  Calls Tryz.prog 100 #[.pointer (some ⟨g,0,none⟩),.pointer (some ⟨r,0,none⟩)] w fun e w'=>OpPost w g r O tb f x Ap cp Ad cd (renameR f.tree x) e w':=by
 have HFS0:=Lib.hid hfs
 obtain ⟨A,c,v,m,lo,hi,hbox,hle,hiv,hsep,htr,htb,hfl,hOm,hOlt⟩:=hfs
 unfold fsCells at hbox
 have hgl:=blk_lt hbox
 have hrl:=blk_lt hreq
 have HS:=Lib.hid (fun W (h:Below w.heap.size w W)=>hiv W fun k h1 h2=>h.block k (hOlt k (hsep k h1 h2).1))
 have HFSK:=Lib.hid (And.intro hle (And.intro hiv (And.intro hsep (And.intro htr (And.intro htb (And.intro hfl (And.intro hOm hOlt)))))))
 have hlen:=P.sumP_len x.p
 have hlen2:=P.sumP_len x.dest
 have hb0:=Below.refl w.heap.size w
 have I:=Lib.hid (Hd.base hb0 (by first | exact Nat.le_refl _ | exact Below.size hb0))
 replace I:=Lib.hid (Hd.and I.out (Hd.box hbox))
 replace I:=Lib.hid (Hd.and I.out (Hd.box hreq))
 replace I:=Lib.hid (Hd.and I.out (Hd.reads (hp)))
 replace I:=Lib.hid (Hd.and I.out (Hd.reads (hpd)))
 obtain ⟨⟨q,y,is,k⟩,hu⟩:∃ r,walkR f.tree x.p false=r:=⟨_,rfl⟩
 obtain ⟨⟨q2,z,is2,k2⟩,hu2⟩:∃ r,walkR f.tree x.dest false=r:=⟨_,rfl⟩
 have HU:=Lib.hid hu
 have HU2:=Lib.hid hu2
 obtain ⟨res,hres⟩:∃ r,renameR f.tree x=r:=⟨_,rfl⟩
 have HR:=Lib.hid (show _=res from hres)
 rw [hres]
 clear hu hu2 hres hiv hsep htr hfl hOm hOlt hp hpd hbox htb hreq
 go_enter Tryz.func100,Tryz.ntmps100
 go_wp2_with fail
 refine start_ (n:=19) (S:=fun w'=>w'.heap[g]? = some (.cells #[.string f.tree.name,.int .u8 f.tree.kind,.string f.tree.data,.slice A f.tree.files.length c,v,.map (some m)] 68 (0,0))∧w'.heap[r]? = some (.cells #[.slice Ap x.p.length cp,.slice Ad x.dest.length cd,.string x.data,.int .u8 0,.int .i64 0] 97 (0,0))) (ds:=[16]) (bq 19 0) (by kernel_rfl) rfl rfl ⟨(I.out _ (bdrew (Below.refl w.heap.size w))).2.2.2.1,(I.out _ (bdrew (Below.refl w.heap.size w))).2.2.1⟩ (fun hHeld => ?_)
 refine pA 0 13 (bq 19 1) ?_
 refine pA 1 14 (bq 19 3) ?_
 refine pA 2 15 (bq 19 7) ?_
 refine pA 4 17 (bq 19 23) ?_
 refine pA 5 18 (bq 19 55) ?_
 refine pA 6 19 (bq 19 119) ?_
 refine tA 3 16 (bq 19 127) hHeld ?_ (hy:=by
  rintro w' ⟨s0,s1⟩
  have q0:=cell_of (j:=0) s0 rfl
  have q1:=cell_of (j:=1) s0 rfl
  have q2:=cell_of (j:=2) s0 rfl
  have q3:=cell_of (j:=3) s0 rfl
  have q4:=cell_of (j:=4) s0 rfl
  have q5:=cell_of (j:=5) s0 rfl
  go_simp
  with_reducible rfl)
 refine tA 7 20 (bq 19 255) hHeld ?_ (hy:=by
  rintro w' ⟨s0,s1⟩
  have q0:=cell_of (j:=0) s1 rfl
  have q1:=cell_of (j:=1) s1 rfl
  have q2:=cell_of (j:=2) s1 rfl
  have q3:=cell_of (j:=3) s1 rfl
  have q4:=cell_of (j:=4) s1 rfl
  go_simp
  with_reducible rfl)
 refine join_ (σ:=(Option Addr×Nat×Option Addr×Nat×Nat×Nat)×Nat) 4 (bq 19 32767) (fun s=>match s with | ((B,d,A4,c4,lo1,hi1),gd)=>[(21,.tuple #[.slice B q.length d,.agg (fc y A4 c4),.bool is,.int .i64 k]),(12,.tuple #[.slice B q.length d,.agg (fc y A4 c4),.bool is,.int .i64 k]),(22,.slice B q.length d),(23,.agg (fc y A4 c4)),(24,.bool is),(25,.int .i64 k),(6,.pointer (some ⟨gd,0,none⟩))]) (fun s W=>match s with | ((B,d,A4,c4,lo1,hi1),gd)=>Below w.heap.size w W∧w.heap.size≤gd∧W.heap[gd]? = some (.cells zC 25 (0,0))∧q.length≤d∧Iv lo1 hi1 W (fun W=>Kd.C Kd.string W B q.length q)∧w.heap.size≤lo1∧hi1≤W.heap.size∧(gd<lo1∨hi1≤gd)∧y.files.length≤c4∧FileK.C w A4 y.files.length y.files) ?_ ?_
 rotate_left
 ·intro hc
  refine two_ (i:=8) (j:=14) (Ni:=some 21) (Nj:=some 6) (bq 19 511) (bq 19 16639) rfl rfl rfl rfl (by kernel_rfl) (by decide) (by decide) (fun K hK => ?_) (fun K hK => ?_)
  ·refine gA Tryz.func37 #[.agg (fc f.tree A c),.slice Ap x.p.length cp,.bool false] ?_
   refine ((show Calls Tryz.prog 37 #[.agg (fc f.tree A c),.slice Ap x.p.length cp,.bool false] _ _ from walk_calls f.tree A c Ap cp x.p false _ w ((bdrew (Below.refl w.heap.size w))) (HS.out w (Below.refl _ _)) hle (by omega) (I.out _ (bdrew (Below.refl w.heap.size w))).2.1 hcp (by omega) (by omega))).mono ?_
   rw [HU.out]
   rintro e w5 ⟨B,d,A4,c4,rfl,hd,hD,hc4,hC4,hq5⟩
   refine ⟨_,rfl,?_⟩
   refine hK.out _ _ (⟨(I.out _ ((bdrew (Below.refl w.heap.size w)).trans hq5)).2.2.2.1,(I.out _ ((bdrew (Below.refl w.heap.size w)).trans hq5)).2.2.1⟩) (fun _ => ?_)
   refine nA 21 ?_
   refine pA 9 12 (bq 19 1023) ?_
   refine pA 10 22 (bq 19 2047) ?_
   refine pA 11 23 (bq 19 4095) ?_
   refine pA 12 24 (bq 19 8191) ?_
   refine pA 13 25 (bq 19 16383) ?_
   refine eA 14 6 (bq 19 32767) (fun K hK => ?_)
   refine vA ?_
   refine hK.out _ _ (⟨(I.out _ (below_alloc ((bdrew (Below.refl w.heap.size w)).trans hq5) _)).2.2.2.1,(I.out _ (below_alloc ((bdrew (Below.refl w.heap.size w)).trans hq5) _)).2.2.1⟩) (fun _ => ?_)
   refine jA (hc ((B,d,A4,c4,w.drew.heap.size,w5.heap.size),w5.heap.size) _ (⟨below_alloc ((bdrew (Below.refl w.heap.size w)).trans hq5) _,((bdrew (Below.refl w.heap.size w)).trans hq5).size,blk_new w5 _,hd,Iv.mv hD fun k _ h2=>(below_alloc (Below.refl w5.heap.size w5) _).block k h2,(bdrew (Below.refl w.heap.size w)).size,(below_alloc (Below.refl w5.heap.size w5) _).size,.inr (Nat.le_refl _),hc4,hC4⟩))
  ·refine vA ?_
   refine hK.out _ _ (⟨(I.out _ (below_alloc (bdrew (Below.refl w.heap.size w)) (.cells zC 25))).2.2.2.1,(I.out _ (below_alloc (bdrew (Below.refl w.heap.size w)) (.cells zC 25))).2.2.1⟩) (fun _ => ?_)
   refine nA 6 ?_
   refine eA 8 21 (bq 19 16895) (fun K hK => ?_)
   refine gA Tryz.func37 #[.agg (fc f.tree A c),.slice Ap x.p.length cp,.bool false] ?_
   refine ((show Calls Tryz.prog 37 #[.agg (fc f.tree A c),.slice Ap x.p.length cp,.bool false] _ _ from walk_calls f.tree A c Ap cp x.p false _ w ((below_alloc (bdrew (Below.refl w.heap.size w)) (.cells zC 25))) (HS.out w (Below.refl _ _)) hle (by omega) (I.out _ (below_alloc (bdrew (Below.refl w.heap.size w)) (.cells zC 25))).2.1 hcp (by omega) (by omega))).mono ?_
   rw [HU.out]
   rintro e w5 ⟨B,d,A4,c4,rfl,hd,hD,hc4,hC4,hq5⟩
   refine ⟨_,rfl,?_⟩
   refine hK.out _ _ (⟨(I.out _ ((below_alloc (bdrew (Below.refl w.heap.size w)) (.cells zC 25)).trans (hq5.mono (below_alloc (Below.refl w.drew.heap.size w.drew) (.cells zC 25)).size))).2.2.2.1,(I.out _ ((below_alloc (bdrew (Below.refl w.heap.size w)) (.cells zC 25)).trans (hq5.mono (below_alloc (Below.refl w.drew.heap.size w.drew) (.cells zC 25)).size))).2.2.1⟩) (fun _ => ?_)
   refine nA 21 ?_
   refine pA 9 12 (bq 19 17407) ?_
   refine pA 10 22 (bq 19 18431) ?_
   refine pA 11 23 (bq 19 20479) ?_
   refine pA 12 24 (bq 19 24575) ?_
   refine pA 13 25 (bq 19 32767) ?_
   refine jA (hc ((B,d,A4,c4,(w.drew.alloc (.cells zC 25)).heap.size,w5.heap.size),w.heap.size) _ (⟨((below_alloc (bdrew (Below.refl w.heap.size w)) (.cells zC 25)).trans (hq5.mono (below_alloc (Below.refl w.drew.heap.size w.drew) (.cells zC 25)).size)),Nat.le_refl _,(hq5.block _ (blk_lt (blk_new w.drew (.cells zC 25)))).trans (blk_new w.drew (.cells zC 25)),hd,hD,(below_alloc (bdrew (Below.refl w.heap.size w)) (.cells zC 25)).size,Nat.le_refl _,.inl (blk_lt (blk_new w.drew (.cells zC 25))),hc4,hC4⟩))
 ·rintro ⟨⟨B,d,A4,c4,lo1,hi1⟩,gd⟩ W hF
  refine uA ?_
  obtain ⟨hbW,hgd,hzz,hd,hD,hlo1,hhi1,hsp,hc4,hC4⟩:=hF
  have hHeld:=(show W.heap[g]? = some (.cells #[.string f.tree.name,.int .u8 f.tree.kind,.string f.tree.data,.slice A f.tree.files.length c,v,.map (some m)] 68 (0,0))∧W.heap[r]? = some (.cells #[.slice Ap x.p.length cp,.slice Ad x.dest.length cd,.string x.data,.int .u8 0,.int .i64 0] 97 (0,0)) from ⟨(I.out _ hbW).2.2.2.1,(I.out _ hbW).2.2.1⟩)
  refine pA 15 5 (bq 19 65535) ?_
  refine last_ (i:=16) (N:=none) (bq 19 131071) rfl rfl (by kernel_rfl) (by decide) (fun K hK => ?_)
  obtain ⟨zc0,zc1,zc2,zc3⟩:=c4A hzz
  obtain ⟨zu0,zu1,zu2,zu3⟩:=u4A hzz
  refine sA ?_
  refine hK.out _ _ ?_
  refine pA 17 7 (bq 19 262143) ?_
  refine pA 18 8 (bq 19 524287) ?_
  refine done_ (by kernel_rfl) ?_
  have hq6:=store4_below hbW (g:=gd) hgd (.string y.name) (.int .u8 y.kind) (.string y.data) (.slice A4 y.files.length c4)
  have hd6:=store4_box hzz (.string y.name) (.int .u8 y.kind) (.string y.data) (.slice A4 y.files.length c4)
  replace I:=Lib.hid (Hd.mv I.out hq6)
  replace I:=Lib.hid (Hd.and I.out (Hd.box (hd6)))
  have hIV6:=Lib.hid (hD.mv (w':=((((W.setCell ⟨gd,0,none⟩ (.string y.name)).setCell ⟨gd,1,none⟩ (.int .u8 y.kind)).setCell ⟨gd,2,none⟩ (.string y.data)).setCell ⟨gd,3,none⟩ (.slice A4 y.files.length c4))) fun k h1 h2=>store4_other W (g:=gd) (by omega) _ _ _ _)
  have HCY:=Lib.hid hC4
  have hsz6:((((W.setCell ⟨gd,0,none⟩ (.string y.name)).setCell ⟨gd,1,none⟩ (.int .u8 y.kind)).setCell ⟨gd,2,none⟩ (.string y.data)).setCell ⟨gd,3,none⟩ (.slice A4 y.files.length c4)).heap.size=W.heap.size:=by simp [World.setCell]
  have hhi6:hi1≤((((W.setCell ⟨gd,0,none⟩ (.string y.name)).setCell ⟨gd,1,none⟩ (.int .u8 y.kind)).setCell ⟨gd,2,none⟩ (.string y.data)).setCell ⟨gd,3,none⟩ (.slice A4 y.files.length c4)).heap.size:=by omega
  clear zc0 zc1 zc2 zc3 zu0 zu1 zu2 zu3 hHeld hK hd6 hD hC4 hsz6 hzz hsp hhi1
  generalize ((((W.setCell ⟨gd,0,none⟩ (.string y.name)).setCell ⟨gd,1,none⟩ (.int .u8 y.kind)).setCell ⟨gd,2,none⟩ (.string y.data)).setCell ⟨gd,3,none⟩ (.slice A4 y.files.length c4))=W6 at *
  have hbw6:=I.out.now.2.2.2.2.2
  have HFS6:=Lib.hid (HFS0.out.below hbw6)
  have hs6:=hbw6.size
  have HRQ6:=Lib.hid I.out.now.2.2.2.1
  have HR1:=HR.out
  unfold renameR at HR1
  rw [HU.out,HU2.out] at HR1
  simp only at HR1
  replace HR1:=Lib.hid HR1
  clear HR
  by_cases hk:k=0
  rotate_left
  ·skip
   have HR2:=HR1.out
   rw [if_neg hk] at HR2
   replace HR2:=Lib.hid HR2
   have k1:(k != 0)=true:=by rw [bne_iff_ne];exact hk
   have k1e:(k == 0)=false:=beq_eq_false_iff_ne.2 hk
   clear hk
   go_wp2_with fail
   go_ret
   rw [← HR2.out]
   exact ⟨rfl,HFS6.out.mono (fun k h=>.inl h) (fun k h=>h.elim (fun h=>HFS6.out.lts k h) fun h=>h.2),HRQ6.out,Only.of_belowV hbw6 _⟩
  ·skip
   subst hk
   have HR2:=HR1.out
   rw [if_pos rfl] at HR2
   replace HR2:=Lib.hid HR2
   cases is
   ·skip
    have HR3:=HR2.out
    rw [if_neg (by decide)] at HR3
    replace HR3:=Lib.hid HR3
    go_wp2_with fail
    go_ret
    rw [← HR3.out]
    exact ⟨rfl,HFS6.out.mono (fun k h=>.inl h) (fun k h=>h.elim (fun h=>HFS6.out.lts k h) fun h=>h.2),HRQ6.out,Only.of_belowV hbw6 _⟩
   ·skip
    have HR3:=HR2.out
    rw [if_pos rfl] at HR3
    replace HR3:=Lib.hid HR3
    by_cases hy:y.kind=1
    ·skip
     have HR4:=HR3.out
     rw [if_pos hy] at HR4
     replace HR4:=Lib.hid HR4
     have k2y:(y.kind == 1)=true:=beq_iff_eq.2 hy
     clear hy
     obtain ⟨ly0,ly1,ly2,ly3⟩:=c4A I.out.now.1
     go_wp2_with fail
     go_ret
     rw [← HR4.out]
     exact ⟨rfl,HFS6.out.mono (fun k h=>.inl h) (fun k h=>h.elim (fun h=>HFS6.out.lts k h) fun h=>h.2),HRQ6.out,Only.of_belowV hbw6 _⟩
    ·skip
     have HR4:=HR3.out
     rw [if_neg hy] at HR4
     replace HR4:=Lib.hid HR4
     have k2y:(y.kind == 1)=false:=beq_eq_false_iff_ne.2 hy
     clear hy
     obtain ⟨ly0,ly1,ly2,ly3⟩:=c4A I.out.now.1
     go_wp2_with fail
     clear ly0 ly1 ly2 ly3
     refine start_ (n:=19) (S:=fun w'=>w'.heap[g]? = some (.cells #[.string f.tree.name,.int .u8 f.tree.kind,.string f.tree.data,.slice A f.tree.files.length c,v,.map (some m)] 68 (0,0))∧w'.heap[r]? = some (.cells #[.slice Ap x.p.length cp,.slice Ad x.dest.length cd,.string x.data,.int .u8 0,.int .i64 0] 97 (0,0))) (ds:=[16]) (bq 19 0) (by kernel_rfl) rfl rfl ⟨(I.out _ (bdrew (Below.refl W6.heap.size W6))).2.2.2.2.1,(I.out _ (bdrew (Below.refl W6.heap.size W6))).2.2.2.1⟩ (fun hHeld => ?_)
     refine pA 0 38 (bq 19 1) ?_
     refine pA 1 39 (bq 19 3) ?_
     refine pA 2 40 (bq 19 7) ?_
     refine pA 4 42 (bq 19 23) ?_
     refine pA 5 43 (bq 19 55) ?_
     refine pA 6 44 (bq 19 119) ?_
     refine tA 3 41 (bq 19 127) hHeld ?_ (hy:=by
      rintro w' ⟨s0,s1⟩
      have q0:=cell_of (j:=0) s0 rfl
      have q1:=cell_of (j:=1) s0 rfl
      have q2:=cell_of (j:=2) s0 rfl
      have q3:=cell_of (j:=3) s0 rfl
      have q4:=cell_of (j:=4) s0 rfl
      have q5:=cell_of (j:=5) s0 rfl
      go_simp
      with_reducible rfl)
     refine tA 7 45 (bq 19 255) hHeld ?_ (hy:=by
      rintro w' ⟨s0,s1⟩
      have q0:=cell_of (j:=0) s1 rfl
      have q1:=cell_of (j:=1) s1 rfl
      have q2:=cell_of (j:=2) s1 rfl
      have q3:=cell_of (j:=3) s1 rfl
      have q4:=cell_of (j:=4) s1 rfl
      go_simp
      with_reducible rfl)
     refine join_ (σ:=(Option Addr×Nat×Option Addr×Nat×Nat×Nat)×Nat) 4 (bq 19 32767) (fun s=>match s with | ((B2,d2,A5,c5,lo2,hi2),gd2)=>[(46,.tuple #[.slice B2 q2.length d2,.agg (fc z A5 c5),.bool is2,.int .i64 k2]),(37,.tuple #[.slice B2 q2.length d2,.agg (fc z A5 c5),.bool is2,.int .i64 k2]),(47,.slice B2 q2.length d2),(48,.agg (fc z A5 c5)),(49,.bool is2),(50,.int .i64 k2),(10,.pointer (some ⟨gd2,0,none⟩))]) (fun s W=>match s with | ((B2,d2,A5,c5,lo2,hi2),gd2)=>Below W6.heap.size W6 W∧W6.heap.size≤gd2∧W.heap[gd2]? = some (.cells zC 25 (0,0))∧q2.length≤d2∧Iv lo2 hi2 W (fun W=>Kd.C Kd.string W B2 q2.length q2)∧W6.heap.size≤lo2∧hi2≤W.heap.size∧(gd2<lo2∨hi2≤gd2)∧z.files.length≤c5∧FileK.C w A5 z.files.length z.files) ?_ ?_
     rotate_left
     ·intro hc
      refine two_ (i:=8) (j:=14) (Ni:=some 46) (Nj:=some 10) (bq 19 511) (bq 19 16639) rfl rfl rfl rfl (by kernel_rfl) (by decide) (by decide) (fun K hK => ?_) (fun K hK => ?_)
      ·refine gA Tryz.func37 #[.agg (fc f.tree A c),.slice Ad x.dest.length cd,.bool false] ?_
       refine ((show Calls Tryz.prog 37 #[.agg (fc f.tree A c),.slice Ad x.dest.length cd,.bool false] _ _ from walk_calls f.tree A c Ad cd x.dest false _ w (hbw6.trans (((bdrew (Below.refl W6.heap.size W6))).mono hs6)) (HS.out w (Below.refl _ _)) hle (by omega) (I.out _ (bdrew (Below.refl W6.heap.size W6))).2.1 hcd (by omega) (by omega))).mono ?_
       rw [HU2.out]
       rintro e w5 ⟨B2,d2,A5,c5,rfl,hd,hD,hc4,hC4,hq5⟩
       refine ⟨_,rfl,?_⟩
       refine hK.out _ _ (⟨(I.out _ ((bdrew (Below.refl W6.heap.size W6)).trans hq5)).2.2.2.2.1,(I.out _ ((bdrew (Below.refl W6.heap.size W6)).trans hq5)).2.2.2.1⟩) (fun _ => ?_)
       refine nA 46 ?_
       refine pA 9 37 (bq 19 1023) ?_
       refine pA 10 47 (bq 19 2047) ?_
       refine pA 11 48 (bq 19 4095) ?_
       refine pA 12 49 (bq 19 8191) ?_
       refine pA 13 50 (bq 19 16383) ?_
       refine eA 14 10 (bq 19 32767) (fun K hK => ?_)
       refine vA ?_
       refine hK.out _ _ (⟨(I.out _ (below_alloc ((bdrew (Below.refl W6.heap.size W6)).trans hq5) _)).2.2.2.2.1,(I.out _ (below_alloc ((bdrew (Below.refl W6.heap.size W6)).trans hq5) _)).2.2.2.1⟩) (fun _ => ?_)
       refine jA (hc ((B2,d2,A5,c5,W6.drew.heap.size,w5.heap.size),w5.heap.size) _ (⟨below_alloc ((bdrew (Below.refl W6.heap.size W6)).trans hq5) _,((bdrew (Below.refl W6.heap.size W6)).trans hq5).size,blk_new w5 _,hd,Iv.mv hD fun k _ h2=>(below_alloc (Below.refl w5.heap.size w5) _).block k h2,(bdrew (Below.refl W6.heap.size W6)).size,(below_alloc (Below.refl w5.heap.size w5) _).size,.inr (Nat.le_refl _),hc4,hC4⟩))
      ·refine vA ?_
       refine hK.out _ _ (⟨(I.out _ (below_alloc (bdrew (Below.refl W6.heap.size W6)) (.cells zC 25))).2.2.2.2.1,(I.out _ (below_alloc (bdrew (Below.refl W6.heap.size W6)) (.cells zC 25))).2.2.2.1⟩) (fun _ => ?_)
       refine nA 10 ?_
       refine eA 8 46 (bq 19 16895) (fun K hK => ?_)
       refine gA Tryz.func37 #[.agg (fc f.tree A c),.slice Ad x.dest.length cd,.bool false] ?_
       refine ((show Calls Tryz.prog 37 #[.agg (fc f.tree A c),.slice Ad x.dest.length cd,.bool false] _ _ from walk_calls f.tree A c Ad cd x.dest false _ w (hbw6.trans (((below_alloc (bdrew (Below.refl W6.heap.size W6)) (.cells zC 25))).mono hs6)) (HS.out w (Below.refl _ _)) hle (by omega) (I.out _ (below_alloc (bdrew (Below.refl W6.heap.size W6)) (.cells zC 25))).2.1 hcd (by omega) (by omega))).mono ?_
       rw [HU2.out]
       rintro e w5 ⟨B2,d2,A5,c5,rfl,hd,hD,hc4,hC4,hq5⟩
       refine ⟨_,rfl,?_⟩
       refine hK.out _ _ (⟨(I.out _ ((below_alloc (bdrew (Below.refl W6.heap.size W6)) (.cells zC 25)).trans (hq5.mono (below_alloc (Below.refl W6.drew.heap.size W6.drew) (.cells zC 25)).size))).2.2.2.2.1,(I.out _ ((below_alloc (bdrew (Below.refl W6.heap.size W6)) (.cells zC 25)).trans (hq5.mono (below_alloc (Below.refl W6.drew.heap.size W6.drew) (.cells zC 25)).size))).2.2.2.1⟩) (fun _ => ?_)
       refine nA 46 ?_
       refine pA 9 37 (bq 19 17407) ?_
       refine pA 10 47 (bq 19 18431) ?_
       refine pA 11 48 (bq 19 20479) ?_
       refine pA 12 49 (bq 19 24575) ?_
       refine pA 13 50 (bq 19 32767) ?_
       refine jA (hc ((B2,d2,A5,c5,(W6.drew.alloc (.cells zC 25)).heap.size,w5.heap.size),W6.heap.size) _ (⟨((below_alloc (bdrew (Below.refl W6.heap.size W6)) (.cells zC 25)).trans (hq5.mono (below_alloc (Below.refl W6.drew.heap.size W6.drew) (.cells zC 25)).size)),Nat.le_refl _,(hq5.block _ (blk_lt (blk_new W6.drew (.cells zC 25)))).trans (blk_new W6.drew (.cells zC 25)),hd,hD,(below_alloc (bdrew (Below.refl W6.heap.size W6)) (.cells zC 25)).size,Nat.le_refl _,.inl (blk_lt (blk_new W6.drew (.cells zC 25))),hc4,hC4⟩))
     ·rintro ⟨⟨B2,d2,A5,c5,lo2,hi2⟩,gd2⟩ W hF
      refine uA ?_
      obtain ⟨hbW2,hgd2,hzz2,hd2,hD2,hlo2,hhi2,hsp2,hc5,hC5⟩:=hF
      have hHeld:=(show W.heap[g]? = some (.cells #[.string f.tree.name,.int .u8 f.tree.kind,.string f.tree.data,.slice A f.tree.files.length c,v,.map (some m)] 68 (0,0))∧W.heap[r]? = some (.cells #[.slice Ap x.p.length cp,.slice Ad x.dest.length cd,.string x.data,.int .u8 0,.int .i64 0] 97 (0,0)) from ⟨(I.out _ hbW2).2.2.2.2.1,(I.out _ hbW2).2.2.2.1⟩)
      refine pA 15 9 (bq 19 65535) ?_
      refine last_ (i:=16) (N:=none) (bq 19 131071) rfl rfl (by kernel_rfl) (by decide) (fun K hK => ?_)
      obtain ⟨zc0,zc1,zc2,zc3⟩:=c4A hzz2
      obtain ⟨zu0,zu1,zu2,zu3⟩:=u4A hzz2
      refine sA ?_
      refine hK.out _ _ ?_
      refine pA 17 7 (bq 19 262143) ?_
      refine pA 18 8 (bq 19 524287) ?_
      refine done_ (by kernel_rfl) ?_
      have hq9:=store4_below hbW2 (g:=gd2) hgd2 (.string z.name) (.int .u8 z.kind) (.string z.data) (.slice A5 z.files.length c5)
      have hd6:=store4_box hzz2 (.string z.name) (.int .u8 z.kind) (.string z.data) (.slice A5 z.files.length c5)
      replace I:=Lib.hid (Hd.mv I.out hq9)
      replace I:=Lib.hid (Hd.and I.out (Hd.box (hd6)))
      have hIV9:=Lib.hid (hD2.mv (w':=((((W.setCell ⟨gd2,0,none⟩ (.string z.name)).setCell ⟨gd2,1,none⟩ (.int .u8 z.kind)).setCell ⟨gd2,2,none⟩ (.string z.data)).setCell ⟨gd2,3,none⟩ (.slice A5 z.files.length c5))) fun k h1 h2=>store4_other W (g:=gd2) (by omega) _ _ _ _)
      have HCZ:=Lib.hid hC5
      have hsz6:((((W.setCell ⟨gd2,0,none⟩ (.string z.name)).setCell ⟨gd2,1,none⟩ (.int .u8 z.kind)).setCell ⟨gd2,2,none⟩ (.string z.data)).setCell ⟨gd2,3,none⟩ (.slice A5 z.files.length c5)).heap.size=W.heap.size:=by simp [World.setCell]
      have hhi9:hi2≤((((W.setCell ⟨gd2,0,none⟩ (.string z.name)).setCell ⟨gd2,1,none⟩ (.int .u8 z.kind)).setCell ⟨gd2,2,none⟩ (.string z.data)).setCell ⟨gd2,3,none⟩ (.slice A5 z.files.length c5)).heap.size:=by omega
      clear zc0 zc1 zc2 zc3 zu0 zu1 zu2 zu3 hHeld hK hd6 hD2 hC5 hsz6 hzz2 hsp2 hhi2
      generalize ((((W.setCell ⟨gd2,0,none⟩ (.string z.name)).setCell ⟨gd2,1,none⟩ (.int .u8 z.kind)).setCell ⟨gd2,2,none⟩ (.string z.data)).setCell ⟨gd2,3,none⟩ (.slice A5 z.files.length c5))=W9 at *
      have hbw9:=I.out.now.2.2.2.2.2.2
      have HFS9:=Lib.hid (HFS0.out.below hbw9)
      have hs9:=hbw9.size
      have HRQ9:=Lib.hid I.out.now.2.2.2.2.1
      have hqs:=walk_sum f.tree x.p false
      have hqs2:=walk_sum f.tree x.dest false
      have hyb:=walk_bulk f.tree x.p false
      rw [HU.out] at hqs hyb
      rw [HU2.out] at hqs2
      simp only at hqs hqs2 hyb
      have hql:=P.sumP_len q
      have hql2:=P.sumP_len q2
      have HQN:Hid (∀ n∈q2,n.size≤1000000000):=Lib.hid fun n hn=>by have:=sumP_in hn;omega
      obtain ⟨bb,hbb⟩:∃ b,decide (q=q2)=b:=⟨_,rfl⟩
      have HBB:=Lib.hid hbb
      clear hbb
      replace I:=Lib.hid (Hd.and I.out (Hd.reads (hIV6.out.mv fun k _ h2=>hq9.block k (Nat.lt_of_lt_of_le h2 hhi6)).now))
      replace I:=Lib.hid (Hd.and I.out (Hd.reads hIV9.out.now))
      replace I:=Lib.hid (Hd.and I.out (Hd.reads (Kd.C_below HCY.out hbw9)))
      by_cases hk2:k2=0
      rotate_left
      ·skip
       have HR5:=HR4.out
       rw [if_neg hk2] at HR5
       replace HR5:=Lib.hid HR5
       have k3:(k2 != 0)=true:=by rw [bne_iff_ne];exact hk2
       clear hk2
       go_wp2_with fail
       go_ret
       rw [← HR5.out]
       exact ⟨rfl,HFS9.out.mono (fun k h=>.inl h) (fun k h=>h.elim (fun h=>HFS9.out.lts k h) fun h=>h.2),HRQ9.out,Only.of_belowV hbw9 _⟩
      ·skip
       subst hk2
       have HR4:=HR4.out
       rw [if_pos rfl] at HR4
       replace HR4:=Lib.hid HR4
       cases is2
       ·skip
        have HR5:=HR4.out
        rw [if_neg (fun h=>absurd h.1 (by decide))] at HR5
        replace HR5:=Lib.hid HR5
        go_wp2_with fail
        refine (show Calls Tryz.prog 113 #[.slice B q.length d,.slice B2 q2.length d2] W9 _ from eqP_below B d q B2 d2 q2 W9 I.out.now.2.2.1 hd I.out.now.2.1 hd2 (by omega)).mono ?_
        rw [HBB.out]
        rintro e w10 ⟨rfl,hq10⟩
        replace I:=Lib.hid (Hd.mv I.out hq10)
        have hbw10:=I.out.now.2.2.2.2.2.2.2.2.2
        have HFS10:=Lib.hid (HFS0.out.below hbw10)
        have hs10:=hbw10.size
        have HRQ10:=Lib.hid I.out.now.2.2.2.2.2.2.2.1
        cases bb
        rotate_left
        ·skip
         have HR6:=HR5.out
         rw [if_pos (of_decide_eq_true HBB.out)] at HR6
         replace HR6:=Lib.hid HR6
         go_wp2_with fail
         go_ret
         rw [← HR6.out]
         exact ⟨rfl,HFS10.out.mono (fun k h=>.inl h) (fun k h=>h.elim (fun h=>HFS10.out.lts k h) fun h=>h.2),HRQ10.out,Only.of_belowV hbw10 _⟩
        ·skip
         have HR6:=HR5.out
         rw [if_neg (of_decide_eq_false HBB.out)] at HR6
         replace HR6:=Lib.hid HR6
         obtain ⟨⟨u,k3⟩,hu3⟩:∃ r,dropA f.tree q=r:=⟨_,rfl⟩
         rw [hu3] at HR6
         have HU3:=Lib.hid hu3
         clear hu3
         have hub:=dropA_bulk f.tree q
         rw [HU3.out] at hub
         simp only at hub HR6
         obtain ⟨lg0,lg1,lg2,lg3,lg4,lg5⟩:=c6A I.out.now.2.2.2.2.2.2.2.2.1
         go_wp2_with fail
         clear lg0 lg1 lg2 lg3 lg4 lg5
         refine (show Calls Tryz.prog 114 #[.agg (fc f.tree A c),.slice B q.length d] w10 _ from dropS f.tree A c B d q w10 (HS.out _ hbw10) hle (by omega) I.out.now.2.2.1 hd (by omega)).mono ?_
         rw [HU3.out]
         rintro e w11 ⟨⟨A6,c6,rfl,hc6,hC6⟩,hq11⟩
         replace I:=Lib.hid (Hd.mv I.out hq11)
         have hbw11:=I.out.now.2.2.2.2.2.2.2.2.2
         have HFS11:=Lib.hid (HFS0.out.below hbw11)
         have hs11:=hbw11.size
         have HRQ11:=Lib.hid I.out.now.2.2.2.2.2.2.2.1
         have HIV11:=Lib.hid (show Iv w10.heap.size w11.heap.size w11 (fun W=>FileK.C W A6 u.files.length u.files) from hC6)
         clear hC6
         by_cases hk3:k3=0
         rotate_left
         ·skip
          have HR7:=HR6.out
          rw [if_neg hk3] at HR7
          replace HR7:=Lib.hid HR7
          have k3a:(k3 != 0)=true:=by rw [bne_iff_ne];exact hk3
          clear hk3
          go_wp2_with fail
          have hq12:=below_alloc (Below.refl w11.heap.size w11) (.cells (fc u A6 c6) 25)
          replace I:=Lib.hid (Hd.mv I.out hq12)
          replace I:=Lib.hid (Hd.and I.out (Hd.box (blk_new w11 (.cells (fc u A6 c6) 25))))
          have hbw12:=I.out.now.2.2.2.2.2.2.2.2.2.2
          have HFS12:=Lib.hid (HFS0.out.below hbw12)
          have hs12:=hbw12.size
          have HRQ12:=Lib.hid I.out.now.2.2.2.2.2.2.2.2.1
          go_ret
          rw [← HR7.out]
          exact ⟨rfl,HFS12.out.mono (fun k h=>.inl h) (fun k h=>h.elim (fun h=>HFS12.out.lts k h) fun h=>h.2),HRQ12.out,Only.of_belowV hbw12 _⟩
         ·skip
          subst hk3
          have HR7:=HR6.out
          rw [if_pos rfl] at HR7
          replace HR7:=Lib.hid HR7
          have hq12:=below_alloc (Below.refl w11.heap.size w11) (.cells (fc u A6 c6) 25)
          replace I:=Lib.hid (Hd.mv I.out hq12)
          replace I:=Lib.hid (Hd.and I.out (Hd.box (blk_new w11 (.cells (fc u A6 c6) 25))))
          have hbw12:=I.out.now.2.2.2.2.2.2.2.2.2.2
          have HFS12:=Lib.hid (HFS0.out.below hbw12)
          have hs12:=hbw12.size
          have HRQ12:=Lib.hid I.out.now.2.2.2.2.2.2.2.2.1
          have HBU12:=Lib.hid I.out.now.1
          obtain ⟨lu0,lu1,lu2,lu3⟩:=c4A I.out.now.1
          obtain ⟨ly0,ly1,ly2,ly3⟩:=c4A I.out.now.2.2.2.2.2.1
          go_wp2_with fail
          clear lu0 lu1 lu2 lu3 ly0 ly1 ly2 ly3
          generalize (w11.alloc (.cells (fc u A6 c6) 25))=W12 at *
          obtain ⟨⟨u2,k4⟩,hu4⟩:∃ r,putA u q2 y=r:=⟨_,rfl⟩
          rw [hu4] at HR7
          simp only at HR7
          have HU4:=Lib.hid hu4
          clear hu4
          have hs12b:=hbw12.size
          refine (show Calls Tryz.prog 115 #[.agg (fc u A6 c6),.slice B2 q2.length d2,.agg (fc y A4 c4)] W12 _ from putS u y A6 A4 c6 c4 B2 d2 q2 W12 (HIV11.out.mv fun k _ h2=>hq12.block k h2).now hc6 (by omega) I.out.now.2.2.1 hd2 (by omega) I.out.now.2.1 hc4 (by omega) HQN.out).mono ?_
          rw [HU4.out]
          rintro e w13 ⟨⟨A7,c7,rfl,hc7,hC7⟩,hq13⟩
          replace I:=Lib.hid (Hd.mv I.out hq13)
          have hbw13:=I.out.now.2.2.2.2.2.2.2.2.2.2
          have HFS13:=Lib.hid (HFS0.out.below hbw13)
          have hs13:=hbw13.size
          have HRQ13:=Lib.hid I.out.now.2.2.2.2.2.2.2.2.1
          have HIV13:=Lib.hid (show Iv W12.heap.size w13.heap.size w13 (fun W=>FileK.C W A7 u2.files.length u2.files) from hC7)
          clear hC7
          have hgu:r≠w11.heap.size:=by omega
          have hgg:g≠w11.heap.size:=by omega
          have hgl12:w11.heap.size<W12.heap.size:=blk_lt (show W12.heap[w11.heap.size]? = some (.cells (fc u A6 c6) 25 (0,0)) from by have h:=HBU12.out;exact h)
          have HB14:=Lib.hid (store4_below hbw13 (g:=w11.heap.size) hs11 (.string u2.name) (.int .u8 u2.kind) (.string u2.data) (.slice A7 u2.files.length c7))
          have HU14:=Lib.hid (store4_box I.out.now.1 (.string u2.name) (.int .u8 u2.kind) (.string u2.data) (.slice A7 u2.files.length c7))
          have HG14:=Lib.hid ((store4_other w13 (g:=w11.heap.size) hgg (.string u2.name) (.int .u8 u2.kind) (.string u2.data) (.slice A7 u2.files.length c7)).trans I.out.now.2.2.2.2.2.2.2.2.2.1)
          have HR14:=Lib.hid ((store4_other w13 (g:=w11.heap.size) hgu (.string u2.name) (.int .u8 u2.kind) (.string u2.data) (.slice A7 u2.files.length c7)).trans HRQ13.out)
          have HI14:=Lib.hid (HIV13.out.mv (w':=((((w13.setCell ⟨w11.heap.size,0,none⟩ (.string u2.name)).setCell ⟨w11.heap.size,1,none⟩ (.int .u8 u2.kind)).setCell ⟨w11.heap.size,2,none⟩ (.string u2.data)).setCell ⟨w11.heap.size,3,none⟩ (.slice A7 u2.files.length c7))) fun k h1 _=>store4_other w13 (g:=w11.heap.size) (by omega) (.string u2.name) (.int .u8 u2.kind) (.string u2.data) (.slice A7 u2.files.length c7))
          have HZ14:Hid (((((w13.setCell ⟨w11.heap.size,0,none⟩ (.string u2.name)).setCell ⟨w11.heap.size,1,none⟩ (.int .u8 u2.kind)).setCell ⟨w11.heap.size,2,none⟩ (.string u2.data)).setCell ⟨w11.heap.size,3,none⟩ (.slice A7 u2.files.length c7)).heap.size=w13.heap.size):=Lib.hid (by simp [World.setCell])
          obtain ⟨zc0,zc1,zc2,zc3⟩:=c4A I.out.now.1
          obtain ⟨zu0,zu1,zu2,zu3⟩:=u4A I.out.now.1
          obtain ⟨W14,hW14⟩:∃ W,((((w13.setCell ⟨w11.heap.size,0,none⟩ (.string u2.name)).setCell ⟨w11.heap.size,1,none⟩ (.int .u8 u2.kind)).setCell ⟨w11.heap.size,2,none⟩ (.string u2.data)).setCell ⟨w11.heap.size,3,none⟩ (.slice A7 u2.files.length c7))=W:=⟨_,rfl⟩
          rw [hW14] at HB14 HU14 HG14 HR14 HI14 HZ14
          by_cases hk4:k4=0
          rotate_left
          ·skip
           have HR8:=HR7.out
           rw [if_neg hk4] at HR8
           replace HR8:=Lib.hid HR8
           have k4a:(k4 == 0)=false:=beq_eq_false_iff_ne.2 hk4
           clear hk4
           go_wp2_with fail
           go_ret
           rw [← HR8.out]
           have HF14:=HFS0.out.below HB14.out
           exact ⟨rfl,HF14.mono (fun k h=>.inl h) (fun k h=>h.elim (fun h=>HF14.lts k h) fun h=>h.2),HR14.out,Only.of_belowV HB14.out _⟩
          ·skip
           subst hk4
           have HR8:=HR7.out
           rw [if_pos rfl] at HR8
           replace HR8:=Lib.hid HR8
           obtain ⟨lu0,lu1,lu2,lu3⟩:=c4A HU14.out
           obtain ⟨zg0,zg1,zg2,zg3⟩:=c4A HG14.out
           obtain ⟨ug0,ug1,ug2,ug3⟩:=u4A HG14.out
           go_wp2_with fail
           go_ret
           rw [← HR8.out]
           have hsz:((((W14.setCell ⟨g,0,none⟩ (.string u2.name)).setCell ⟨g,1,none⟩ (.int .u8 u2.kind)).setCell ⟨g,2,none⟩ (.string u2.data)).setCell ⟨g,3,none⟩ (.slice A7 u2.files.length c7)).heap.size=W14.heap.size:=by simp [World.setCell]
           have hz14:=HZ14.out
           have hb14:=HB14.out
           have hs13':=hq13.size
           obtain ⟨hle,hiv,hsep,htr,htb,hfl,hOm,hOlt⟩:=HFSK.out
           have htr6:=Kd.R_below htr hb14
           have htrn:=Kd.R_types htr6 HG14.out (by decide)
           have hflm:=hfl.lt
           have hmg:=(hfl.mv (hb14.block m hflm)).ne HG14.out
           have htbl:∀ k,tb=some k→k<w.heap.size:=fun k e=>hOlt k (((Kd.R_bound htr).1 k (htb.trans e)).1)
           refine ⟨rfl,⟨A7,c7,v,m,W12.heap.size,w13.heap.size,store4_box6 HG14.out _ _ _ _,hc7,HI14.out.mv fun k h1 h2=>store4_other W14 (g:=g) (by omega) _ _ _ _,fun k h1 h2=>⟨.inr ⟨by omega,by omega⟩,by omega,fun e=>by have:=htbl k e;omega⟩,Kd.R_mono (Kd.R_step htrn fun k hk _=>store4_other W14 (g:=g) hk.2 _ _ _ _) (fun k hk=>.inl hk.1),htb,hfl.mv ((store4_other W14 (g:=g) hmg _ _ _ _).trans (hb14.block m hflm)),.inl hOm,fun k h=>h.elim (fun h=>by have:=hOlt k h;omega) fun h=>h.2⟩,(store4_other W14 (g:=g) hrg _ _ _ _).trans HR14.out,?_⟩
           exact (Only.of_belowV hb14 (fun k=>k=g∨k=r)).trans (only4 W14 g _ _ _ _) (fun _ _ h=>h) (fun _ _ h=>.inl h)
       ·skip
        by_cases hz:z.kind=1
        ·skip
         have HR5:=HR4.out
         rw [if_pos ⟨rfl,hz⟩] at HR5
         replace HR5:=Lib.hid HR5
         have k2z:(z.kind == 1)=true:=beq_iff_eq.2 hz
         clear hz
         obtain ⟨lz0,lz1,lz2,lz3⟩:=c4A I.out.now.2.2.2.1
         go_wp2_with fail
         go_ret
         rw [← HR5.out]
         exact ⟨rfl,HFS9.out.mono (fun k h=>.inl h) (fun k h=>h.elim (fun h=>HFS9.out.lts k h) fun h=>h.2),HRQ9.out,Only.of_belowV hbw9 _⟩
        ·skip
         have HR5:=HR4.out
         rw [if_neg (fun h=>hz h.2)] at HR5
         replace HR5:=Lib.hid HR5
         have k2z:(z.kind == 1)=false:=beq_eq_false_iff_ne.2 hz
         clear hz
         obtain ⟨lz0,lz1,lz2,lz3⟩:=c4A I.out.now.2.2.2.1
         go_wp2_with fail
         refine (show Calls Tryz.prog 113 #[.slice B q.length d,.slice B2 q2.length d2] W9 _ from eqP_below B d q B2 d2 q2 W9 I.out.now.2.2.1 hd I.out.now.2.1 hd2 (by omega)).mono ?_
         rw [HBB.out]
         rintro e w10 ⟨rfl,hq10⟩
         replace I:=Lib.hid (Hd.mv I.out hq10)
         have hbw10:=I.out.now.2.2.2.2.2.2.2.2.2
         have HFS10:=Lib.hid (HFS0.out.below hbw10)
         have hs10:=hbw10.size
         have HRQ10:=Lib.hid I.out.now.2.2.2.2.2.2.2.1
         cases bb
         rotate_left
         ·skip
          have HR6:=HR5.out
          rw [if_pos (of_decide_eq_true HBB.out)] at HR6
          replace HR6:=Lib.hid HR6
          go_wp2_with fail
          go_ret
          rw [← HR6.out]
          exact ⟨rfl,HFS10.out.mono (fun k h=>.inl h) (fun k h=>h.elim (fun h=>HFS10.out.lts k h) fun h=>h.2),HRQ10.out,Only.of_belowV hbw10 _⟩
         ·skip
          have HR6:=HR5.out
          rw [if_neg (of_decide_eq_false HBB.out)] at HR6
          replace HR6:=Lib.hid HR6
          obtain ⟨⟨u,k3⟩,hu3⟩:∃ r,dropA f.tree q=r:=⟨_,rfl⟩
          rw [hu3] at HR6
          have HU3:=Lib.hid hu3
          clear hu3
          have hub:=dropA_bulk f.tree q
          rw [HU3.out] at hub
          simp only at hub HR6
          obtain ⟨lg0,lg1,lg2,lg3,lg4,lg5⟩:=c6A I.out.now.2.2.2.2.2.2.2.2.1
          go_wp2_with fail
          clear lg0 lg1 lg2 lg3 lg4 lg5
          refine (show Calls Tryz.prog 114 #[.agg (fc f.tree A c),.slice B q.length d] w10 _ from dropS f.tree A c B d q w10 (HS.out _ hbw10) hle (by omega) I.out.now.2.2.1 hd (by omega)).mono ?_
          rw [HU3.out]
          rintro e w11 ⟨⟨A6,c6,rfl,hc6,hC6⟩,hq11⟩
          replace I:=Lib.hid (Hd.mv I.out hq11)
          have hbw11:=I.out.now.2.2.2.2.2.2.2.2.2
          have HFS11:=Lib.hid (HFS0.out.below hbw11)
          have hs11:=hbw11.size
          have HRQ11:=Lib.hid I.out.now.2.2.2.2.2.2.2.1
          have HIV11:=Lib.hid (show Iv w10.heap.size w11.heap.size w11 (fun W=>FileK.C W A6 u.files.length u.files) from hC6)
          clear hC6
          by_cases hk3:k3=0
          rotate_left
          ·skip
           have HR7:=HR6.out
           rw [if_neg hk3] at HR7
           replace HR7:=Lib.hid HR7
           have k3a:(k3 != 0)=true:=by rw [bne_iff_ne];exact hk3
           clear hk3
           go_wp2_with fail
           have hq12:=below_alloc (Below.refl w11.heap.size w11) (.cells (fc u A6 c6) 25)
           replace I:=Lib.hid (Hd.mv I.out hq12)
           replace I:=Lib.hid (Hd.and I.out (Hd.box (blk_new w11 (.cells (fc u A6 c6) 25))))
           have hbw12:=I.out.now.2.2.2.2.2.2.2.2.2.2
           have HFS12:=Lib.hid (HFS0.out.below hbw12)
           have hs12:=hbw12.size
           have HRQ12:=Lib.hid I.out.now.2.2.2.2.2.2.2.2.1
           go_ret
           rw [← HR7.out]
           exact ⟨rfl,HFS12.out.mono (fun k h=>.inl h) (fun k h=>h.elim (fun h=>HFS12.out.lts k h) fun h=>h.2),HRQ12.out,Only.of_belowV hbw12 _⟩
          ·skip
           subst hk3
           have HR7:=HR6.out
           rw [if_pos rfl] at HR7
           replace HR7:=Lib.hid HR7
           have hq12:=below_alloc (Below.refl w11.heap.size w11) (.cells (fc u A6 c6) 25)
           replace I:=Lib.hid (Hd.mv I.out hq12)
           replace I:=Lib.hid (Hd.and I.out (Hd.box (blk_new w11 (.cells (fc u A6 c6) 25))))
           have hbw12:=I.out.now.2.2.2.2.2.2.2.2.2.2
           have HFS12:=Lib.hid (HFS0.out.below hbw12)
           have hs12:=hbw12.size
           have HRQ12:=Lib.hid I.out.now.2.2.2.2.2.2.2.2.1
           have HBU12:=Lib.hid I.out.now.1
           obtain ⟨lu0,lu1,lu2,lu3⟩:=c4A I.out.now.1
           obtain ⟨ly0,ly1,ly2,ly3⟩:=c4A I.out.now.2.2.2.2.2.1
           go_wp2_with fail
           clear lu0 lu1 lu2 lu3 ly0 ly1 ly2 ly3
           generalize (w11.alloc (.cells (fc u A6 c6) 25))=W12 at *
           obtain ⟨⟨u2,k4⟩,hu4⟩:∃ r,putA u q2 y=r:=⟨_,rfl⟩
           rw [hu4] at HR7
           simp only at HR7
           have HU4:=Lib.hid hu4
           clear hu4
           have hs12b:=hbw12.size
           refine (show Calls Tryz.prog 115 #[.agg (fc u A6 c6),.slice B2 q2.length d2,.agg (fc y A4 c4)] W12 _ from putS u y A6 A4 c6 c4 B2 d2 q2 W12 (HIV11.out.mv fun k _ h2=>hq12.block k h2).now hc6 (by omega) I.out.now.2.2.1 hd2 (by omega) I.out.now.2.1 hc4 (by omega) HQN.out).mono ?_
           rw [HU4.out]
           rintro e w13 ⟨⟨A7,c7,rfl,hc7,hC7⟩,hq13⟩
           replace I:=Lib.hid (Hd.mv I.out hq13)
           have hbw13:=I.out.now.2.2.2.2.2.2.2.2.2.2
           have HFS13:=Lib.hid (HFS0.out.below hbw13)
           have hs13:=hbw13.size
           have HRQ13:=Lib.hid I.out.now.2.2.2.2.2.2.2.2.1
           have HIV13:=Lib.hid (show Iv W12.heap.size w13.heap.size w13 (fun W=>FileK.C W A7 u2.files.length u2.files) from hC7)
           clear hC7
           have hgu:r≠w11.heap.size:=by omega
           have hgg:g≠w11.heap.size:=by omega
           have hgl12:w11.heap.size<W12.heap.size:=blk_lt (show W12.heap[w11.heap.size]? = some (.cells (fc u A6 c6) 25 (0,0)) from by have h:=HBU12.out;exact h)
           have HB14:=Lib.hid (store4_below hbw13 (g:=w11.heap.size) hs11 (.string u2.name) (.int .u8 u2.kind) (.string u2.data) (.slice A7 u2.files.length c7))
           have HU14:=Lib.hid (store4_box I.out.now.1 (.string u2.name) (.int .u8 u2.kind) (.string u2.data) (.slice A7 u2.files.length c7))
           have HG14:=Lib.hid ((store4_other w13 (g:=w11.heap.size) hgg (.string u2.name) (.int .u8 u2.kind) (.string u2.data) (.slice A7 u2.files.length c7)).trans I.out.now.2.2.2.2.2.2.2.2.2.1)
           have HR14:=Lib.hid ((store4_other w13 (g:=w11.heap.size) hgu (.string u2.name) (.int .u8 u2.kind) (.string u2.data) (.slice A7 u2.files.length c7)).trans HRQ13.out)
           have HI14:=Lib.hid (HIV13.out.mv (w':=((((w13.setCell ⟨w11.heap.size,0,none⟩ (.string u2.name)).setCell ⟨w11.heap.size,1,none⟩ (.int .u8 u2.kind)).setCell ⟨w11.heap.size,2,none⟩ (.string u2.data)).setCell ⟨w11.heap.size,3,none⟩ (.slice A7 u2.files.length c7))) fun k h1 _=>store4_other w13 (g:=w11.heap.size) (by omega) (.string u2.name) (.int .u8 u2.kind) (.string u2.data) (.slice A7 u2.files.length c7))
           have HZ14:Hid (((((w13.setCell ⟨w11.heap.size,0,none⟩ (.string u2.name)).setCell ⟨w11.heap.size,1,none⟩ (.int .u8 u2.kind)).setCell ⟨w11.heap.size,2,none⟩ (.string u2.data)).setCell ⟨w11.heap.size,3,none⟩ (.slice A7 u2.files.length c7)).heap.size=w13.heap.size):=Lib.hid (by simp [World.setCell])
           obtain ⟨zc0,zc1,zc2,zc3⟩:=c4A I.out.now.1
           obtain ⟨zu0,zu1,zu2,zu3⟩:=u4A I.out.now.1
           obtain ⟨W14,hW14⟩:∃ W,((((w13.setCell ⟨w11.heap.size,0,none⟩ (.string u2.name)).setCell ⟨w11.heap.size,1,none⟩ (.int .u8 u2.kind)).setCell ⟨w11.heap.size,2,none⟩ (.string u2.data)).setCell ⟨w11.heap.size,3,none⟩ (.slice A7 u2.files.length c7))=W:=⟨_,rfl⟩
           rw [hW14] at HB14 HU14 HG14 HR14 HI14 HZ14
           by_cases hk4:k4=0
           rotate_left
           ·skip
            have HR8:=HR7.out
            rw [if_neg hk4] at HR8
            replace HR8:=Lib.hid HR8
            have k4a:(k4 == 0)=false:=beq_eq_false_iff_ne.2 hk4
            clear hk4
            go_wp2_with fail
            go_ret
            rw [← HR8.out]
            have HF14:=HFS0.out.below HB14.out
            exact ⟨rfl,HF14.mono (fun k h=>.inl h) (fun k h=>h.elim (fun h=>HF14.lts k h) fun h=>h.2),HR14.out,Only.of_belowV HB14.out _⟩
           ·skip
            subst hk4
            have HR8:=HR7.out
            rw [if_pos rfl] at HR8
            replace HR8:=Lib.hid HR8
            obtain ⟨lu0,lu1,lu2,lu3⟩:=c4A HU14.out
            obtain ⟨zg0,zg1,zg2,zg3⟩:=c4A HG14.out
            obtain ⟨ug0,ug1,ug2,ug3⟩:=u4A HG14.out
            go_wp2_with fail
            go_ret
            rw [← HR8.out]
            have hsz:((((W14.setCell ⟨g,0,none⟩ (.string u2.name)).setCell ⟨g,1,none⟩ (.int .u8 u2.kind)).setCell ⟨g,2,none⟩ (.string u2.data)).setCell ⟨g,3,none⟩ (.slice A7 u2.files.length c7)).heap.size=W14.heap.size:=by simp [World.setCell]
            have hz14:=HZ14.out
            have hb14:=HB14.out
            have hs13':=hq13.size
            obtain ⟨hle,hiv,hsep,htr,htb,hfl,hOm,hOlt⟩:=HFSK.out
            have htr6:=Kd.R_below htr hb14
            have htrn:=Kd.R_types htr6 HG14.out (by decide)
            have hflm:=hfl.lt
            have hmg:=(hfl.mv (hb14.block m hflm)).ne HG14.out
            have htbl:∀ k,tb=some k→k<w.heap.size:=fun k e=>hOlt k (((Kd.R_bound htr).1 k (htb.trans e)).1)
            refine ⟨rfl,⟨A7,c7,v,m,W12.heap.size,w13.heap.size,store4_box6 HG14.out _ _ _ _,hc7,HI14.out.mv fun k h1 h2=>store4_other W14 (g:=g) (by omega) _ _ _ _,fun k h1 h2=>⟨.inr ⟨by omega,by omega⟩,by omega,fun e=>by have:=htbl k e;omega⟩,Kd.R_mono (Kd.R_step htrn fun k hk _=>store4_other W14 (g:=g) hk.2 _ _ _ _) (fun k hk=>.inl hk.1),htb,hfl.mv ((store4_other W14 (g:=g) hmg _ _ _ _).trans (hb14.block m hflm)),.inl hOm,fun k h=>h.elim (fun h=>by have:=hOlt k h;omega) fun h=>h.2⟩,(store4_other W14 (g:=g) hrg _ _ _ _).trans HR14.out,?_⟩
            exact (Only.of_belowV hb14 (fun k=>k=g∨k=r)).trans (only4 W14 g _ _ _ _) (fun _ _ h=>h) (fun _ _ h=>.inl h)
end Go.Proofs.YthlcjjhfkldmhaaGreatDoor.G
end
section
section
namespace Go.Proofs.YthlcjjhfkldmhaaGreatDoor.G
open Go.RowKit Go.Shelf Go.Lib Go.Proofs.YthlcjjhfkldmhaaGreatDoorW.PrintWords Go.Proofs.YthlcjjhfkldmhaaGreatDoorW.PrintLast
set_option linter.unusedVariables false
def kindF (k:Int):Value:=if k=1 then (.func (.func 96) #[] #[]) else if k=2 then (.func (.func 97) #[] #[]) else if k=3 then (.func (.func 98) #[] #[]) else if k=4 then (.func (.func 99) #[] #[]) else (.func (.func 100) #[] #[])
def kindE:Array MapEntry:=#[{key:=.int .u8 1,val:=(.func (.func 96) #[] #[]),born:=0},{key:=.int .u8 2,val:=(.func (.func 97) #[] #[]),born:=1},{key:=.int .u8 3,val:=(.func (.func 98) #[] #[]),born:=2},{key:=.int .u8 4,val:=(.func (.func 99) #[] #[]),born:=3},{key:=.int .u8 5,val:=(.func (.func 100) #[] #[]),born:=4}]
def Kinded (W:World) (r:Nat):Prop:=W.heap[r]? = some (.map kindE 5)
theorem kinds_insert (w:World) (r clock:Nat) (es:Array MapEntry) (n:Int) (val:Value) (hb:w.heap[r]? = some (.map es clock)) (hf:Instr.findNow (.int .u8) (.int .u8 n) es.toList 0=some none) :
  (Instr.mapUpdate 117 (.map (some r)) (.int .u8 n) val).run Tryz.prog w=.ok () (w.putObj r (.map (es.push {key:=.int .u8 n,val:=val,born:=clock}) (clock+1))):=by
 have hc:(Instr.checkKey false 10000 38 (.int .u8 n)).run Tryz.prog w=.ok () w:=MapKept.run_checkKey Tryz.underlying38 (by simp [MapKept.IsKey]) false 9999
 simp [Instr.mapUpdate,run_underlying Tryz.underlying117,MapKept.run_getObj_map hb,hc,MapKept.run_findKey Tryz.underlying38 hf,MapKept.run_setObj_map _ hb,Result.andThen,World.putObj]
theorem lookup_kinds (W:World) (r:Nat) (k:Int) (hb:Kinded W r) (h1:1≤k) (h5:k≤5) :
  (Instr.lookup 117 (.map (some r)) (.int .u8 k) false).run Tryz.prog W=.ok (kindF k) W:=by
 have hc:∀ b,(Instr.checkKey b 10000 38 (.int .u8 k)).run Tryz.prog W=.ok () W:=fun b=>MapKept.run_checkKey Tryz.underlying38 (by simp [MapKept.IsKey]) b 9999
 unfold Kinded at hb
 have hk:k=1∨k=2∨k=3∨k=4∨k=5:=by omega
 rcases hk with rfl | rfl | rfl | rfl | rfl
 ·have hf:Instr.findNow (.int .u8) (.int .u8 1) kindE.toList 0=some (some (0,(.func (.func 96) #[] #[]))):=rfl
  simp [Instr.lookup,run_underlying Tryz.underlying117,MapKept.run_getObj_map hb,hc,MapKept.run_findKey Tryz.underlying38 hf,Result.andThen,kindF]
 ·have hf:Instr.findNow (.int .u8) (.int .u8 2) kindE.toList 0=some (some (1,(.func (.func 97) #[] #[]))):=rfl
  simp [Instr.lookup,run_underlying Tryz.underlying117,MapKept.run_getObj_map hb,hc,MapKept.run_findKey Tryz.underlying38 hf,Result.andThen,kindF]
 ·have hf:Instr.findNow (.int .u8) (.int .u8 3) kindE.toList 0=some (some (2,(.func (.func 98) #[] #[]))):=rfl
  simp [Instr.lookup,run_underlying Tryz.underlying117,MapKept.run_getObj_map hb,hc,MapKept.run_findKey Tryz.underlying38 hf,Result.andThen,kindF]
 ·have hf:Instr.findNow (.int .u8) (.int .u8 4) kindE.toList 0=some (some (3,(.func (.func 99) #[] #[]))):=rfl
  simp [Instr.lookup,run_underlying Tryz.underlying117,MapKept.run_getObj_map hb,hc,MapKept.run_findKey Tryz.underlying38 hf,Result.andThen,kindF]
 ·have hf:Instr.findNow (.int .u8) (.int .u8 5) kindE.toList 0=some (some (4,(.func (.func 100) #[] #[]))):=rfl
  simp [Instr.lookup,run_underlying Tryz.underlying117,MapKept.run_getObj_map hb,hc,MapKept.run_findKey Tryz.underlying38 hf,Result.andThen,kindF]
set_option maxHeartbeats 4000000 in
set_option maxRecDepth 100000 in
theorem kinds_calls (w:World) :
  Calls Tryz.prog 71 #[] w fun e w'=>e=.returned (.map (some w.heap.size))∧Kinded w' w.heap.size∧Below w.heap.size w w':=by
 have hmm := @run_makeMap Tryz.prog
 have hb0:(w.alloc (.map #[] 0)).heap[w.heap.size]? = some (.map #[] 0):=World.alloc_heap_new w _
 have hs0:w.heap.size<(w.alloc (.map #[] 0)).heap.size:=by simp
 have q0:Below w.heap.size w (w.alloc (.map #[] 0)):=below_alloc (Below.refl _ _) _
 have i1:=kinds_insert _ w.heap.size 0 #[] 1 (.func (.func 96) #[] #[]) hb0 rfl
 generalize e0:w.alloc (.map #[] 0)=w0 at *
 have hb1:(w0.putObj w.heap.size (.map (#[].push {key:=.int .u8 1,val:=(.func (.func 96) #[] #[]),born:=0}) (0+1))).heap[w.heap.size]? = _:=World.putObj_heap_same hs0
 have hs1:w.heap.size<(w0.putObj w.heap.size (.map (#[].push {key:=.int .u8 1,val:=(.func (.func 96) #[] #[]),born:=0}) (0+1))).heap.size:=by simpa [World.putObj] using hs0
 have q1:=bput q0 (Nat.le_refl _) (.map (#[].push {key:=.int .u8 1,val:=(.func (.func 96) #[] #[]),born:=0}) (0+1))
 have i2:=kinds_insert _ w.heap.size _ _ 2 (.func (.func 97) #[] #[]) hb1 rfl
 generalize w0.putObj w.heap.size (.map (#[].push {key:=.int .u8 1,val:=(.func (.func 96) #[] #[]),born:=0}) (0+1))=w1 at *
 have hb2:(w1.putObj w.heap.size (.map ((#[].push {key:=.int .u8 1,val:=(.func (.func 96) #[] #[]),born:=0}).push {key:=.int .u8 2,val:=(.func (.func 97) #[] #[]),born:=0+1}) (0+1+1))).heap[w.heap.size]? = _:=World.putObj_heap_same hs1
 have hs2:w.heap.size<(w1.putObj w.heap.size (.map ((#[].push {key:=.int .u8 1,val:=(.func (.func 96) #[] #[]),born:=0}).push {key:=.int .u8 2,val:=(.func (.func 97) #[] #[]),born:=0+1}) (0+1+1))).heap.size:=by simpa [World.putObj] using hs1
 have q2:=bput q1 (Nat.le_refl _) (.map ((#[].push {key:=.int .u8 1,val:=(.func (.func 96) #[] #[]),born:=0}).push {key:=.int .u8 2,val:=(.func (.func 97) #[] #[]),born:=0+1}) (0+1+1))
 have i3:=kinds_insert _ w.heap.size _ _ 3 (.func (.func 98) #[] #[]) hb2 rfl
 generalize w1.putObj w.heap.size (.map ((#[].push {key:=.int .u8 1,val:=(.func (.func 96) #[] #[]),born:=0}).push {key:=.int .u8 2,val:=(.func (.func 97) #[] #[]),born:=0+1}) (0+1+1))=w2 at *
 have hb3:(w2.putObj w.heap.size (.map (((#[].push {key:=.int .u8 1,val:=(.func (.func 96) #[] #[]),born:=0}).push {key:=.int .u8 2,val:=(.func (.func 97) #[] #[]),born:=0+1}).push {key:=.int .u8 3,val:=(.func (.func 98) #[] #[]),born:=0+1+1}) (0+1+1+1))).heap[w.heap.size]? = _:=World.putObj_heap_same hs2
 have hs3:w.heap.size<(w2.putObj w.heap.size (.map (((#[].push {key:=.int .u8 1,val:=(.func (.func 96) #[] #[]),born:=0}).push {key:=.int .u8 2,val:=(.func (.func 97) #[] #[]),born:=0+1}).push {key:=.int .u8 3,val:=(.func (.func 98) #[] #[]),born:=0+1+1}) (0+1+1+1))).heap.size:=by simpa [World.putObj] using hs2
 have q3:=bput q2 (Nat.le_refl _) (.map (((#[].push {key:=.int .u8 1,val:=(.func (.func 96) #[] #[]),born:=0}).push {key:=.int .u8 2,val:=(.func (.func 97) #[] #[]),born:=0+1}).push {key:=.int .u8 3,val:=(.func (.func 98) #[] #[]),born:=0+1+1}) (0+1+1+1))
 have i4:=kinds_insert _ w.heap.size _ _ 4 (.func (.func 99) #[] #[]) hb3 rfl
 generalize w2.putObj w.heap.size (.map (((#[].push {key:=.int .u8 1,val:=(.func (.func 96) #[] #[]),born:=0}).push {key:=.int .u8 2,val:=(.func (.func 97) #[] #[]),born:=0+1}).push {key:=.int .u8 3,val:=(.func (.func 98) #[] #[]),born:=0+1+1}) (0+1+1+1))=w3 at *
 have hb4:(w3.putObj w.heap.size (.map ((((#[].push {key:=.int .u8 1,val:=(.func (.func 96) #[] #[]),born:=0}).push {key:=.int .u8 2,val:=(.func (.func 97) #[] #[]),born:=0+1}).push {key:=.int .u8 3,val:=(.func (.func 98) #[] #[]),born:=0+1+1}).push {key:=.int .u8 4,val:=(.func (.func 99) #[] #[]),born:=0+1+1+1}) (0+1+1+1+1))).heap[w.heap.size]? = _:=World.putObj_heap_same hs3
 have hs4:w.heap.size<(w3.putObj w.heap.size (.map ((((#[].push {key:=.int .u8 1,val:=(.func (.func 96) #[] #[]),born:=0}).push {key:=.int .u8 2,val:=(.func (.func 97) #[] #[]),born:=0+1}).push {key:=.int .u8 3,val:=(.func (.func 98) #[] #[]),born:=0+1+1}).push {key:=.int .u8 4,val:=(.func (.func 99) #[] #[]),born:=0+1+1+1}) (0+1+1+1+1))).heap.size:=by simpa [World.putObj] using hs3
 have q4:=bput q3 (Nat.le_refl _) (.map ((((#[].push {key:=.int .u8 1,val:=(.func (.func 96) #[] #[]),born:=0}).push {key:=.int .u8 2,val:=(.func (.func 97) #[] #[]),born:=0+1}).push {key:=.int .u8 3,val:=(.func (.func 98) #[] #[]),born:=0+1+1}).push {key:=.int .u8 4,val:=(.func (.func 99) #[] #[]),born:=0+1+1+1}) (0+1+1+1+1))
 have i5:=kinds_insert _ w.heap.size _ _ 5 (.func (.func 100) #[] #[]) hb4 rfl
 generalize w3.putObj w.heap.size (.map ((((#[].push {key:=.int .u8 1,val:=(.func (.func 96) #[] #[]),born:=0}).push {key:=.int .u8 2,val:=(.func (.func 97) #[] #[]),born:=0+1}).push {key:=.int .u8 3,val:=(.func (.func 98) #[] #[]),born:=0+1+1}).push {key:=.int .u8 4,val:=(.func (.func 99) #[] #[]),born:=0+1+1+1}) (0+1+1+1+1))=w4 at *
 have hb5:(w4.putObj w.heap.size (.map (((((#[].push {key:=.int .u8 1,val:=(.func (.func 96) #[] #[]),born:=0}).push {key:=.int .u8 2,val:=(.func (.func 97) #[] #[]),born:=0+1}).push {key:=.int .u8 3,val:=(.func (.func 98) #[] #[]),born:=0+1+1}).push {key:=.int .u8 4,val:=(.func (.func 99) #[] #[]),born:=0+1+1+1}).push {key:=.int .u8 5,val:=(.func (.func 100) #[] #[]),born:=0+1+1+1+1}) (0+1+1+1+1+1))).heap[w.heap.size]? = _:=World.putObj_heap_same hs4
 have q5:=bput q4 (Nat.le_refl _) (.map (((((#[].push {key:=.int .u8 1,val:=(.func (.func 96) #[] #[]),born:=0}).push {key:=.int .u8 2,val:=(.func (.func 97) #[] #[]),born:=0+1}).push {key:=.int .u8 3,val:=(.func (.func 98) #[] #[]),born:=0+1+1}).push {key:=.int .u8 4,val:=(.func (.func 99) #[] #[]),born:=0+1+1+1}).push {key:=.int .u8 5,val:=(.func (.func 100) #[] #[]),born:=0+1+1+1+1}) (0+1+1+1+1+1))
 have HW:Hid (Kinded (w4.putObj w.heap.size (.map (((((#[].push {key:=.int .u8 1,val:=(.func (.func 96) #[] #[]),born:=0}).push {key:=.int .u8 2,val:=(.func (.func 97) #[] #[]),born:=0+1}).push {key:=.int .u8 3,val:=(.func (.func 98) #[] #[]),born:=0+1+1}).push {key:=.int .u8 4,val:=(.func (.func 99) #[] #[]),born:=0+1+1+1}).push {key:=.int .u8 5,val:=(.func (.func 100) #[] #[]),born:=0+1+1+1+1}) (0+1+1+1+1+1))) w.heap.size):=Lib.hid hb5
 generalize w4.putObj w.heap.size (.map (((((#[].push {key:=.int .u8 1,val:=(.func (.func 96) #[] #[]),born:=0}).push {key:=.int .u8 2,val:=(.func (.func 97) #[] #[]),born:=0+1}).push {key:=.int .u8 3,val:=(.func (.func 98) #[] #[]),born:=0+1+1}).push {key:=.int .u8 4,val:=(.func (.func 99) #[] #[]),born:=0+1+1+1}).push {key:=.int .u8 5,val:=(.func (.func 100) #[] #[]),born:=0+1+1+1+1}) (0+1+1+1+1+1))=w5 at *
 clear hb0 hb1 hb2 hb3 hb4 hb5 hs0 hs1 hs2 hs3 hs4 q0 q1 q2 q3 q4
 have Q5:=Lib.hid q5
 clear q5
 go_enter Tryz.func71,Tryz.ntmps71
 go_wp2
 go_ret
 exact ⟨rfl,HW.out,Q5.out⟩
end Go.Proofs.YthlcjjhfkldmhaaGreatDoor.G
end
section
namespace Go.Proofs.YthlcjjhfkldmhaaGreatDoor.G
open Go.RowKit Go.Lib Go.Proofs.YthlcjjhfkldmhaaGreatDoorW.PrintWords Go.Proofs.YthlcjjhfkldmhaaGreatDoorW.PrintLast
set_option linter.unusedVariables false
def kindN (k:Int):Nat:=if k=1 then 96 else if k=2 then 97 else if k=3 then 98 else if k=4 then 99 else 100
theorem kindF_N (k:Int):kindF k=.func (.func (kindN k)) #[] #[]:=by
 unfold kindF kindN
 repeat' split
 all_goals rfl
theorem op_fs (k:Int) (h1:1≤k) (h5:k≤5) (w:World) (g r:Nat) (O:Nat→Prop) (tb:Option Nat) (f:FsV) (x:Req) (Ap:Option Addr) (cp:Nat) (Ad:Option Addr) (cd:Nat) (hfs:FsAt w g O tb f) (hreq:w.heap[r]? = some (.cells #[.slice Ap x.p.length cp,.slice Ad x.dest.length cd,.string x.data,.int .u8 0,.int .i64 0] 97 (0,0))) (hrg:r≠g) (hrO:¬ O r) (hbt:f.tree.bulk≤100000000) (hp:Kd.C Kd.string w Ap x.p.length x.p) (hcp:x.p.length≤cp) (hps:P.sumP x.p≤1024) (hpd:Kd.C Kd.string w Ad x.dest.length x.dest) (hcd:x.dest.length≤cd) (hpt:P.sumP x.dest≤1024) (hdb:x.data.size≤100000000) :
  Calls Tryz.prog (kindN k) #[.pointer (some ⟨g,0,none⟩),.pointer (some ⟨r,0,none⟩)] w fun e w'=>OpPost w g r O tb f x Ap cp Ad cd (opR k f.tree x) e w':=by
 have hk:k=1∨k=2∨k=3∨k=4∨k=5:=by omega
 rcases hk with rfl | rfl | rfl | rfl | rfl
 ·exact lstat_fs w g r O tb f x Ap cp Ad cd hfs hreq hrg hrO hbt hp hcp hps hdb
 ·exact read_fs w g r O tb f x Ap cp Ad cd hfs hreq hrg hrO hbt hp hcp hps hdb
 ·exact create_fs w g r O tb f x Ap cp Ad cd hfs hreq hrg hrO hbt hp hcp hps hdb
 ·exact append_fs w g r O tb f x Ap cp Ad cd hfs hreq hrg hrO hbt hp hcp hps hdb
 ·exact rename_fs w g r O tb f x Ap cp Ad cd hfs hreq hrg hrO hbt hp hcp hps hpd hcd hpt hdb
end Go.Proofs.YthlcjjhfkldmhaaGreatDoor.G
end
section
namespace Go.Proofs.YthlcjjhfkldmhaaGreatDoor.G
open Go.RowKit Go.Lib Go.Proofs.YthlcjjhfkldmhaaGreatDoorW.PrintWords Go.Proofs.YthlcjjhfkldmhaaGreatDoorW.PrintLast
set_option linter.unusedVariables false
set_option linter.unusedSimpArgs false
def CallPost (w:World) (g r:Nat) (O:Nat→Prop) (tb:Option Nat) (f:FsV) (x:Req) (Ap:Option Addr) (cp:Nat) (Ad:Option Addr) (cd:Nat) (res:FsV×Told×Int) (e:Ending) (w':World):Prop :=
 e=.returned (.int .i64 res.2.2)∧(∃ tb',(tb'=tb∨∃ j,tb'=some j∧w.heap.size≤j)∧FsAt w' g (fun k=>O k∨w.heap.size≤k∧k<w'.heap.size) tb' res.1)∧w'.heap[r]? = some (.cells (reqCells x Ap cp Ad cd res.2.1) 97 (0,0))∧Only (fun k=>k=g∨k=r∨tb=some k) w w'
theorem info_call:(Tryz.prog.info? 79).map (fun i=>(i.zero,i.size,i.bytes))=some (some (.agg #[.int .u8 0,.slice none 0 0,.slice none 0 0,.int .i64 0]),4,64):=by kernel_rfl
set_option maxHeartbeats 8000000 in
set_option maxRecDepth 100000 in
theorem call_fs (k:Int) (h1:1≤k) (h5:k≤5) (w:World) (g r:Nat) (O:Nat→Prop) (tb:Option Nat) (f:FsV) (x:Req) (Ap:Option Addr) (cp:Nat) (Ad:Option Addr) (cd:Nat) (hfs:FsAt w g O tb f) (hreq:w.heap[r]? = some (.cells #[.slice Ap x.p.length cp,.slice Ad x.dest.length cd,.string x.data,.int .u8 0,.int .i64 0] 97 (0,0))) (hrg:r≠g) (hrO:¬ O r) (hgO:¬ O g) (hbt:f.tree.bulk≤100000000) (HP:Kd.F Kd.string w (fun k=>k≠g∧k≠r∧tb≠some k) Ap x.p.length x.p) (hcp:x.p.length≤cp) (hpB:P.sumP x.p≤1099511627776) (HPD:Kd.F Kd.string w (fun k=>k≠g∧k≠r∧tb≠some k) Ad x.dest.length x.dest) (hcd:x.dest.length≤cd) (hdB:P.sumP x.dest≤1099511627776) (hdb:x.data.size≤100000000) (htl:f.trace.length≤2000000) :
  Calls Tryz.prog 46 #[.pointer (some ⟨g,0,none⟩),.int .u8 k,.pointer (some ⟨r,0,none⟩)] w fun e w'=>CallPost w g r O tb f x Ap cp Ad cd (callV f k x) e w':=by
 have hp:=Kd.F_now HP
 have hpd:=Kd.F_now HPD
 replace HP:=Lib.hid HP
 replace HPD:=Lib.hid HPD
 have HFS0:=Lib.hid hfs
 obtain ⟨A,c,v,m,lo,hi,hbox,hle,hiv,hsep,htr,htb,hfl,hOm,hOlt⟩:=hfs
 unfold fsCells at hbox
 obtain ⟨AT,ct,rfl⟩:=Kd.R_slice htr
 have HFL:=Lib.hid (show Hd (fun W=>Faulted W m f.faults) w from fun W hW=>hfl.mv (hW.block m hfl.lt))
 obtain ⟨bf,hbf⟩:∃ b,decide ((f.trace.length:Int)∈f.faults)=b:=⟨_,rfl⟩
 have HBF:=Lib.hid hbf
 clear hbf
 have hgl:=blk_lt hbox
 have hrl:=blk_lt hreq
 have HTR0:=Lib.hid htr
 have HTB0:=Lib.hid htb
 have HFSK:=Lib.hid (And.intro hle (And.intro hiv (And.intro hsep (And.intro htr (And.intro htb (And.intro hfl (And.intro hOm hOlt)))))))
 have hlen:=P.sumP_len x.p
 have hlen2:=P.sumP_len x.dest
 have hb0:=Below.refl w.heap.size w
 have I:=Lib.hid (Hd.base hb0 (by first | exact Nat.le_refl _ | exact Below.size hb0))
 replace I:=Lib.hid (Hd.and I.out (Hd.box hbox))
 replace I:=Lib.hid (Hd.and I.out (Hd.box hreq))
 replace I:=Lib.hid (Hd.and I.out (Hd.reads (hp)))
 replace I:=Lib.hid (Hd.and I.out (Hd.reads (hpd)))
 replace I:=Lib.hid (Hd.and I.out (HFL.out))
 obtain ⟨b1,hb1⟩:∃ b,P.rightB x.p=b:=⟨_,rfl⟩
 obtain ⟨b2,hb2⟩:∃ b,P.rightB x.dest=b:=⟨_,rfl⟩
 have HB1:=Lib.hid hb1
 have HB2:=Lib.hid hb2
 obtain ⟨⟨tr,tl,wy⟩,hrs⟩:∃ r,(if (f.trace.length:Int)∈f.faults then (f.tree,told0 x.data,42) else opR k f.tree x)=r:=⟨_,rfl⟩
 have HRS:=Lib.hid hrs
 clear hb1 hb2 hrs hiv hsep htr hfl hOm hOlt hp hpd hbox htb hreq
 go_enter Tryz.func46,Tryz.ntmps46
 obtain ⟨lr0,lr1,lr2,lr3,lr4⟩:=c5A I.out.now.2.2.2.1
 go_wp2_with fail
 clear lr0 lr1 lr2 lr3 lr4
 refine (show Calls Tryz.prog 36 #[.slice Ap x.p.length cp] w _ from P.right_calls Ap cp x.p w I.out.now.2.2.1 hcp (by omega) (by omega)).mono ?_
 rw [HB1.out]
 rintro e w1 ⟨rfl,hq1⟩
 replace I:=Lib.hid (Hd.mv I.out hq1)
 cases b1
 ·skip
  go_wp2_with fail
  have hbw1:=I.out.now.2.2.2.2.2
  have HFS1:=Lib.hid (HFS0.out.below hbw1)
  have hs1:=hbw1.size
  have HRQ1:=Lib.hid I.out.now.2.2.2.1
  go_ret
  have hcv:callV f k x=(f,told0 x.data,20):=by unfold callV;exact if_neg (fun h=>absurd (h.1.symm.trans HB1.out) (by decide))
  rw [hcv]
  exact ⟨rfl,⟨tb,.inl rfl,HFS1.out.mono (fun k h=>.inl h) (fun k h=>h.elim (fun h=>HFS1.out.lts k h) fun h=>h.2)⟩,HRQ1.out,Only.of_belowV hbw1 _⟩
 ·skip
  obtain ⟨lr0,lr1,lr2,lr3,lr4⟩:=c5A I.out.now.2.2.2.1
  go_wp2_with fail
  clear lr0 lr1 lr2 lr3 lr4
  refine (show Calls Tryz.prog 36 #[.slice Ad x.dest.length cd] w1 _ from P.right_calls Ad cd x.dest w1 I.out.now.2.1 hcd (by omega) (by omega)).mono ?_
  rw [HB2.out]
  rintro e w2 ⟨rfl,hq2⟩
  replace I:=Lib.hid (Hd.mv I.out hq2)
  cases b2
  ·skip
   go_wp2_with fail
   have hbw2:=I.out.now.2.2.2.2.2
   have HFS2:=Lib.hid (HFS0.out.below hbw2)
   have hs2:=hbw2.size
   have HRQ2:=Lib.hid I.out.now.2.2.2.1
   go_ret
   have hcv:callV f k x=(f,told0 x.data,20):=by unfold callV;exact if_neg (fun h=>absurd (h.2.symm.trans HB2.out) (by decide))
   rw [hcv]
   exact ⟨rfl,⟨tb,.inl rfl,HFS2.out.mono (fun k h=>.inl h) (fun k h=>h.elim (fun h=>HFS2.out.lts k h) fun h=>h.2)⟩,HRQ2.out,Only.of_belowV hbw2 _⟩
  ·skip
   have hps:=P.rightB_sum HB1.out
   have hpt:=P.rightB_sum HB2.out
   go_wp2_with fail
   refine start_ (n:=11) (S:=fun w'=>w'.heap[g]? = some (.cells #[.string f.tree.name,.int .u8 f.tree.kind,.string f.tree.data,.slice A f.tree.files.length c,.slice AT f.trace.length ct,.map (some m)] 68 (0,0))∧Faulted w' m f.faults) (ds:=[]) (bq 11 0) (by kernel_rfl) rfl rfl ⟨(I.out _ (bdrew (Below.refl w2.heap.size w2))).2.2.2.2.1,(I.out _ (bdrew (Below.refl w2.heap.size w2))).1⟩ (fun hHeld => ?_)
   refine pA 0 25 (bq 11 1) ?_
   refine pA 1 26 (bq 11 3) ?_
   refine pA 2 27 (bq 11 7) ?_
   refine pA 4 29 (bq 11 23) ?_
   refine pA 5 30 (bq 11 55) ?_
   refine pA 6 31 (bq 11 119) ?_
   refine tA 3 28 (bq 11 127) hHeld ?_ (hy:=by
    rintro w' ⟨s0,s1⟩
    have q0:=cell_of (j:=0) s0 rfl
    have q1:=cell_of (j:=1) s0 rfl
    have q2:=cell_of (j:=2) s0 rfl
    have q3:=cell_of (j:=3) s0 rfl
    have q4:=cell_of (j:=4) s0 rfl
    have q5:=cell_of (j:=5) s0 rfl
    go_simp
    with_reducible rfl)
   refine tA 7 32 (bq 11 255) hHeld ?_ (hy:=by
    rintro w' ⟨s0,s1⟩
    have q0:=cell_of (j:=0) s0 rfl
    have q1:=cell_of (j:=1) s0 rfl
    have q2:=cell_of (j:=2) s0 rfl
    have q3:=cell_of (j:=3) s0 rfl
    have q4:=cell_of (j:=4) s0 rfl
    have q5:=cell_of (j:=5) s0 rfl
    go_simp
    with_reducible rfl)
   refine pA 8 33 (bq 11 511) ?_
   refine tA 9 34 (bq 11 1023) hHeld ?_ (hy:=by
    rintro w' ⟨s0,s1⟩
    have hlk:=fault_lookup s1 (f.trace.length:Int)
    rw [HBF.out] at hlk
    go_simp
    with_reducible rfl)
   refine pA 10 35 (bq 11 2047) ?_
   refine done_ (by kernel_rfl) ?_
   have hq3:=(bdrew (Below.refl w2.heap.size w2))
   clear hHeld
   replace I:=Lib.hid (Hd.mv I.out hq3)
   generalize w2.drew=W3 at *
   have hbw3:=I.out.now.2.2.2.2.2
   have HFS3:=Lib.hid (HFS0.out.below hbw3)
   have hs3:=hbw3.size
   have HRQ3:=Lib.hid I.out.now.2.2.2.1
   rename_i K1 hK1 K2 hK2
   have HT:Hid (∀ (a:Act) (W5:World),(fun a W5=>(∃ v3 v4 v5 v6 v8 v9 v10 v11 v12 v13 v14 v15 v16 v17 v18 v19 v20 v21 v22 v23 v24 v25 v26 v27 v28 v29 v30 v31 v32 v33 v34 v35 v36 v37 v38 v39 v40 v41 v42 v43 v44 v45 v46 v47 v48 v49 v50 v51 v52 v53 v54 v55 v56 v57 v58 v59 v60 v61 v62 v63 v64 v65 v66 v67 v68,a={tmps:=#[.pointer (some ⟨g,0,none⟩),.int .u8 k,.pointer (some ⟨r,0,none⟩),v3,v4,v5,v6,.int .i64 wy,v8,v9,v10,v11,v12,v13,v14,v15,v16,v17,v18,v19,v20,v21,v22,v23,v24,v25,v26,v27,v28,v29,v30,v31,v32,v33,v34,v35,v36,v37,v38,v39,v40,v41,v42,v43,v44,v45,v46,v47,v48,v49,v50,v51,v52,v53,v54,v55,v56,v57,v58,v59,v60,v61,v62,v63,v64,v65,v66,v67,v68],defers:=[]})∧FsAt W5 g (fun k=>O k∨w.heap.size≤k∧k<W5.heap.size) tb {f with tree:=tr}∧W5.heap[r]? = some (.cells (reqCells x Ap cp Ad cd tl) 97 (0,0))∧Only (fun k=>k=g∨k=r) w W5) a W5→K1 a W5):=Lib.hid ?tail
   case tail =>
    intro a W5 hF5
    obtain ⟨⟨v3,v4,v5,v6,v8,v9,v10,v11,v12,v13,v14,v15,v16,v17,v18,v19,v20,v21,v22,v23,v24,v25,v26,v27,v28,v29,v30,v31,v32,v33,v34,v35,v36,v37,v38,v39,v40,v41,v42,v43,v44,v45,v46,v47,v48,v49,v50,v51,v52,v53,v54,v55,v56,v57,v58,v59,v60,v61,v62,v63,v64,v65,v66,v67,v68,rfl⟩,hF5,hr5,ho5⟩:=hF5
    refine hK1 _ _ ?_
    have HF5:=Lib.hid hF5
    have HR5:=Lib.hid hr5
    have HO5:=Lib.hid ho5
    clear hF5 hr5 ho5 HFS3 HRQ3 hbw3 hs3
    have ho5:=HO5.out
    have HP5:=Lib.hid (Kd.F_step HP.out fun k hk hl=>ho5.block k hl fun e=>e.elim hk.1 hk.2.1)
    have HPD5:=Lib.hid (Kd.F_step HPD.out fun k hk hl=>ho5.block k hl fun e=>e.elim hk.1 hk.2.1)
    have hgl5':=HF5.out.lt
    clear ho5 I
    have I:=Lib.hid (Hd.base (Below.refl W5.heap.size W5) (by first | exact Nat.le_refl _ | exact Below.size (Below.refl W5.heap.size W5)))
    replace I:=Lib.hid (Hd.and I.out (Hd.box HR5.out))
    replace I:=Lib.hid (Hd.and I.out (Hd.reads (Kd.F_now HP5.out)))
    replace I:=Lib.hid (Hd.and I.out (Hd.reads (Kd.F_now HPD5.out)))
    replace I:=Lib.hid (Hd.and I.out ((show Hd (fun W=>FsAt W g (fun k=>O k∨w.heap.size≤k∧k<W5.heap.size) tb {f with tree:=tr}) W5 from fun W hW=>HF5.out.below hW)))
    have HRR:=Lib.hid (show _=some (Obj.cells #[.slice Ap x.p.length cp,.slice Ad x.dest.length cd,.string tl.data,.int .u8 tl.kind,.int .i64 tl.size] 97 (0,0)) from I.out.now.2.2.2.1)
    obtain ⟨lr0,lr1,lr2,lr3,lr4⟩:=c5A HRR.out
    go_wp2_with fail
    clear lr0 lr1 lr2 lr3 lr4 HRR
    refine ((P.clone_calls Ap cp x.p W5 I.out.now.2.2.1 hcp (by omega))).mono ?_
    rintro e w1 ⟨v1,rfl,hR1,hq1⟩
    replace I:=Lib.hid (Hd.mv I.out hq1)
    have hsc1:=hq1.size
    replace I:=Lib.hid (Hd.and I.out (Hd.rows (Kd.R_elderB hR1 w1.heap.size (Nat.le_refl _))))
    obtain ⟨A1,c1,rfl⟩:=Kd.R_slice hR1
    clear hR1
    by_cases hkk:k=5
    rotate_left
    ·skip
     have hkb:(k == 5)=false:=beq_eq_false_iff_ne.2 hkk
     have HDL:=Lib.hid (show (if k=5 then x.dest else [])=[] from if_neg hkk)
     clear hkk
     have ha2:=below_alloc (Below.refl w1.heap.size w1) (.cells #[.int .u8 k,.slice A1 x.p.length c1,.slice none 0 0,.int .i64 wy] 79)
     replace I:=Lib.hid (Hd.mv I.out ha2)
     replace I:=Lib.hid (Hd.and I.out (Hd.box (blk_new w1 (.cells #[.int .u8 k,.slice A1 x.p.length c1,.slice none 0 0,.int .i64 wy] 79))))
     go_wp2_with fail
     generalize (w1.alloc (.cells #[.int .u8 k,.slice A1 x.p.length c1,.slice none 0 0,.int .i64 wy] 79))=W2 at *
     have hqd:=bdrew (Below.refl W2.heap.size W2)
     replace I:=Lib.hid (Hd.mv I.out hqd)
     have HFS9:=Lib.hid I.out.now.2.2.1
     obtain ⟨A5,c5,v5,m5,lo5,hi5,hbox5,hle5,hiv5,hsep5,htr5,htb5,hfl5,hOm5,hOlt5⟩:=I.out.now.2.2.1
     unfold fsCells at hbox5
     obtain ⟨AT5,ct5,rfl⟩:=Kd.R_slice htr5
     simp only at hbox5 hle5 htr5 hfl5 hiv5
     have HG5:=Lib.hid hbox5
     have HIV5:=Lib.hid hiv5
     have HTR5:=Lib.hid htr5
     have HTB5:=Lib.hid htb5
     have HFL5:=Lib.hid hfl5
     have hgl5:=blk_lt hbox5
     have hml5:=hfl5.lt
     have hmg5:=hfl5.ne hbox5
     have hcl5:=blk_lt I.out.now.1
     have hbw5:=I.out.now.2.2.2.2.2.2
     have hsw5:=hbw5.size
     have htl5:∀ k,tb=some k→O k:=fun k e=>by
      have h:=((Kd.R_bound HTR0.out).1 k (HTB0.out.trans e)).1
      exact h
     have hlt0:∀ k,O k→k<w.heap.size:=HFS0.out.lts
     have hso5:=HO5.out.size
     clear hbox5 hiv5 htr5 htb5 hfl5
     refine start_ (n:=11) (S:=fun w'=>w'.heap[g]? = some (.cells #[.string tr.name,.int .u8 tr.kind,.string tr.data,.slice A5 tr.files.length c5,.slice AT5 f.trace.length ct5,.map (some m5)] 68 (0,0))∧w'.heap[w1.heap.size]? = some (.cells #[.int .u8 k,.slice A1 x.p.length c1,.slice none 0 0,.int .i64 wy] 79 (0,0))) (ds:=[10]) (bq 11 0) (by kernel_rfl) rfl rfl ⟨HG5.out,I.out.now.1⟩ (fun hHeld => ?_)
     generalize W2.drew=WD at *
     refine pA 0 58 (bq 11 1) ?_
     refine pA 1 59 (bq 11 3) ?_
     refine pA 2 60 (bq 11 7) ?_
     refine pA 3 61 (bq 11 15) ?_
     refine tA 4 62 (bq 11 31) hHeld ?_ (hy:=by
      rintro w' ⟨s0,s1⟩
      have q0:=cell_of (j:=0) s0 rfl
      have q1:=cell_of (j:=1) s0 rfl
      have q2:=cell_of (j:=2) s0 rfl
      have q3:=cell_of (j:=3) s0 rfl
      have q4:=cell_of (j:=4) s0 rfl
      have q5:=cell_of (j:=5) s0 rfl
      go_simp
      with_reducible rfl)
     refine tA 5 63 (bq 11 63) hHeld ?_ (hy:=by
      rintro w' ⟨s0,s1⟩
      have q0:=cell_of (j:=0) s1 rfl
      have q1:=cell_of (j:=1) s1 rfl
      have q2:=cell_of (j:=2) s1 rfl
      have q3:=cell_of (j:=3) s1 rfl
      go_simp
      with_reducible rfl)
     refine eA 6 64 (bq 11 127) (fun K hK => ?_)
     refine vA ?_
     have hba:=below_alloc (Below.refl WD.heap.size WD) (.cells #[.int .u8 k,.slice A1 x.p.length c1,.slice none 0 0,.int .i64 wy] 79)
     refine hK.out _ _ ⟨(hba.block _ hgl5).trans HG5.out,(hba.block _ hcl5).trans I.out.now.1⟩ (fun hHeld => ?_)
     refine nA 64 ?_
     refine eA 7 65 (bq 11 255) (fun K hK => ?_)
     refine Kd.R_append_step CallK (w0:=WD) 0 (by rfl) (.tmp 62) (.tmp 64) 34 79 (.agg #[.int .u8 0,.slice none 0 0,.slice none 0 0,.int .i64 0]) 64 rfl Tryz.underlying34 info_call rfl (by decide) (by omega) (.slice AT5 f.trace.length ct5) f.trace ⟨k,x.p,[],wy⟩ [.int .u8 k,.slice A1 x.p.length c1,.slice none 0 0,.int .i64 wy] (fun j=>O j∨w.heap.size≤j) (fun j=>W5.heap.size≤j) rfl rfl ?aP ?aK ?aF ?aO ?aB ?aS ?aL ?_
     case aP=>exact call_mkM _ 0 _ ⟨k,x.p,[],wy⟩ (Kd.R_lower (Kd.R_mono (Kd.R_bound I.out.now.2.1) fun j hj=>hj.2.1) (Nat.zero_le _)) (Kd.R_nil _ _ _ _ _)
     case aK=>exact fun j hj=>⟨.inr (by omega),fun e=>by
      have h:=htl5 j (HTB5.out.symm.trans e.symm)
      have:=hlt0 j h
      omega⟩
     case aF=>exact fun j hj=>.inr (by omega)
     case aO=>exact Kd.R_mono HTR5.out fun j hj=>hj.imp id fun h=>h.1
     case aB=>exact Below.refl _ _
     case aS=>exact Nat.zero_le _
     case aL=>omega
     intro v2 w2 ho2 hb2 hg2 hat2
     have HO2:=Lib.hid ho2
     have HB2':=Lib.hid hb2
     have hs2':=hg2.size
     have HOG:=Lib.hid (Only.grown_of hg2)
     have hne2:∀ j,(O j→tb≠some j)→j<WD.heap.size→w2.heap[j]? = WD.heap[j]? := fun j hj hl=>hg2.block j hl (fun e=>by
      have e2:=HTB5.out.symm.trans e.symm
      exact hj (htl5 j e2) e2)
     have HG6:=Lib.hid ((hne2 g (fun h=>absurd h hgO) hgl5).trans HG5.out)
     have HC6:=Lib.hid ((hne2 w1.heap.size (fun h=>by have:=hlt0 _ h;omega) hcl5).trans I.out.now.1)
     have HIV6:=Lib.hid (HIV5.out.mv fun j h1 h2=>hne2 j (fun _=>(hsep5 j h1 h2).2.2) (HFS9.out.lts j (hsep5 j h1 h2).1))
     have HFL6:=Lib.hid (HFL5.out.mv (hne2 m5 (fun _ => ?aM) hml5))
     case aM =>
      intro e
      obtain ⟨cells,hc⟩:=Kd.R_typed HTR5.out m5 (HTB5.out.trans e)
      obtain ⟨es,clock,hm,_⟩:=HFL5.out
      rw [hm] at hc
      cases hc
     have HX6:Hid (∀ j,j<WD.heap.size→tb≠some j→w2.heap[j]? = WD.heap[j]?):=Lib.hid fun j hl h=>hne2 j (fun _=>h) hl
     have HV2:Hid (v2.ownBlock=tb∨∃ b,v2.ownBlock=some b∧WD.heap.size≤b):=Lib.hid (hat2.imp (fun h=>h.trans HTB5.out) id)
     obtain ⟨AT6,ct6,rfl⟩:=Kd.R_slice ho2
     clear ho2 hb2 hg2 hat2 hne2
     have hlen6:(f.trace++[(⟨k,x.p,[],wy⟩:Call)]).length=f.trace.length+1:=by simp
     rw [hlen6] at HO2 HV2
     refine hK.out _ _ ⟨HG6.out,HC6.out⟩ (fun hHeld => ?_)
     refine nA 65 ?_
     refine pA 8 66 (bq 11 511) ?_
     refine pA 9 67 (bq 11 1023) ?_
     refine last_ (i:=10) (N:=none) (bq 11 2047) rfl rfl (by kernel_rfl) (by decide) (fun K hK => ?_)
     have zg4:=cell_of (j:=4) HG6.out rfl
     have ug4:=unfr HG6.out 4
     refine sA ?_
     refine hK.out _ _ ?_
     refine done_ (by kernel_rfl) ?_
     go_wp2_with fail
     go_ret
     have hcv:callV f k x=(⟨tr,f.trace++[⟨k,x.p,[],wy⟩],f.faults⟩,tl,wy):=by
      unfold callV
      rw [if_pos ⟨HB1.out,HB2.out⟩]
      simp only [HRS.out,HDL.out]
     rw [hcv]
     have hz9:(w2.setCell ⟨g,4,none⟩ (.slice AT6 (f.trace.length+1) ct6)).heap.size=w2.heap.size:=by simp [World.setCell]
     have htb9:∀ j,tb=some j→j<w.heap.size:=fun j e=>hlt0 j (htl5 j e)
     refine ⟨rfl,⟨_,HV2.out.imp id (fun ⟨b,e,h⟩=>⟨b,e,by omega⟩),?_⟩,?_,?_⟩
     ·refine ⟨A5,c5,.slice AT6 (f.trace.length+1) ct6,m5,lo5,hi5,?_,hle5,HIV6.out.mv fun k h1 h2=>Below.heap_setCell _ _ _ _ (hsep5 k h1 h2).2.1,fun k h1 h2=>⟨(hsep5 k h1 h2).1.imp id fun h=>⟨h.1,by omega⟩,(hsep5 k h1 h2).2.1,fun e => ?_⟩,?_,rfl,HFL6.out.mv (Below.heap_setCell _ _ _ _ hmg5),hOm5.imp id fun h=>⟨h.1,by omega⟩,fun k h=>h.elim (fun h=>by have:=hlt0 k h;omega) fun h=>h.2⟩
      ·have h:=blk_put (cs:=#[.string tr.name,.int .u8 tr.kind,.string tr.data,.slice A5 tr.files.length c5,.slice AT5 f.trace.length ct5,.map (some m5)]) HG6.out 4 (.slice AT6 (f.trace.length+1) ct6) rfl
       exact h
      ·rcases HV2.out with h | ⟨b,h,hb⟩
       ·exact (hsep5 k h1 h2).2.2 (h.symm.trans e)
       ·have h9:=HFS9.out.lts k (hsep5 k h1 h2).1
        rw [h] at e
        injection e with e
        omega
      ·exact Kd.R_mono (Kd.R_bound (Kd.R_step (Kd.R_types HO2.out HG6.out (by decide)) fun k hk _=>Below.heap_setCell _ _ _ _ hk.2)) fun k hk=>hk.1.1.imp id fun h=>⟨h,hk.2.2.1⟩
     ·exact (Below.heap_setCell _ _ _ _ hrg).trans ((HX6.out r (by omega) (fun e=>hrO (htl5 r e))).trans I.out.now.2.2.2.2.2.1)
     ·exact ((HO5.out.trans (Only.of_belowV hbw5 fun _=>False) (K:=fun k=>k=g∨k=r∨tb=some k) (fun _ _ h=>h.elim .inl fun h=>.inr (.inl h)) (fun _ _ h=>h.elim)).trans HOG.out (fun _ _ h=>h) (fun _ _ h=>.inr (.inr (HTB5.out.symm.trans h)))).trans (Only.setCell _ _ _) (fun _ _ h=>h) (fun _ _ h=>.inl h)
    ·skip
     have hkb:(k == 5)=true:=beq_iff_eq.2 hkk
     have HDL:=Lib.hid (show (if k=5 then x.dest else [])=x.dest from if_pos hkk)
     clear hkk
     have ha2:=below_alloc (Below.refl w1.heap.size w1) (.cells #[.int .u8 k,.slice A1 x.p.length c1,.slice none 0 0,.int .i64 wy] 79)
     replace I:=Lib.hid (Hd.mv I.out ha2)
     replace I:=Lib.hid (Hd.and I.out (Hd.box (blk_new w1 (.cells #[.int .u8 k,.slice A1 x.p.length c1,.slice none 0 0,.int .i64 wy] 79))))
     have HRR:=Lib.hid (show _=some (Obj.cells #[.slice Ap x.p.length cp,.slice Ad x.dest.length cd,.string tl.data,.int .u8 tl.kind,.int .i64 tl.size] 97 (0,0)) from I.out.now.2.2.2.2.2.1)
     obtain ⟨lr0,lr1,lr2,lr3,lr4⟩:=c5A HRR.out
     go_wp2_with fail
     clear lr0 lr1 lr2 lr3 lr4 HRR
     generalize (w1.alloc (.cells #[.int .u8 k,.slice A1 x.p.length c1,.slice none 0 0,.int .i64 wy] 79))=W2 at *
     have hbl:=blk_lt I.out.now.1
     refine ((P.clone_calls Ad cd x.dest W2 I.out.now.2.2.2.1 hcd (by omega))).mono ?_
     rintro e w3 ⟨v2,rfl,hR2,hq3⟩
     replace I:=Lib.hid (Hd.mv I.out hq3)
     have HQ2:=Lib.hid (Kd.R_mono (Kd.R_bound hR2) (ok':=fun k=>W2.heap.size≤k) fun k hk=>hk.2.1)
     obtain ⟨A2,c2,rfl⟩:=Kd.R_slice hR2
     clear hR2
     have zc2:=cell_of (j:=2) I.out.now.1 rfl
     have zu2:=unfr I.out.now.1 2
     have hlt9:=HF5.out.lts
     have hb9:=Below.setCell (p:=⟨w1.heap.size,2,none⟩) I.out.now.2.2.2.2.2.2 (by simp only;omega) (.slice A2 x.dest.length c2)
     have hboxc9:=blk_put I.out.now.1 2 (.slice A2 x.dest.length c2) rfl
     have hboxr9:=(Below.heap_setCell w3 ⟨w1.heap.size,2,none⟩ (.slice A2 x.dest.length c2) r (by simp only;have:=HO5.out.size;omega)).trans I.out.now.2.2.2.2.2.1
     have hfs9:=FsAt.keep I.out.now.2.2.1 (w':=(w3.setCell ⟨w1.heap.size,2,none⟩ (.slice A2 x.dest.length c2))) (fun k hk=>Below.heap_setCell _ _ _ _ (by simp only;rcases hk with h | h;(· omega);(· have:=hlt9 k h;omega))) (by simp [World.setCell])
     have hcp9:=Kd.R_far (p:=⟨w1.heap.size,2,none⟩) I.out.now.2.1 (fun k hk=>hk.2) (.slice A2 x.dest.length c2)
     have hcq9:=Kd.R_far (p:=⟨w1.heap.size,2,none⟩) HQ2.out (fun k hk=>by simp only;omega) (.slice A2 x.dest.length c2)
     have HB9:=Lib.hid hb9
     have HK9:=Lib.hid (And.intro hboxc9 (And.intro hboxr9 (And.intro hfs9 (And.intro hcp9 hcq9))))
     clear hb9 hboxc9 hboxr9 hfs9 hcp9 hcq9 I
     go_wp2_with fail
     have I:=Lib.hid (Hd.base HB9.out (by first | exact Nat.le_refl _ | exact Below.size HB9.out))
     replace I:=Lib.hid (Hd.and I.out (Hd.box HK9.out.2.1))
     replace I:=Lib.hid (Hd.and I.out ((show Hd (fun W=>FsAt W g (fun k=>O k∨w.heap.size≤k∧k<W5.heap.size) tb {f with tree:=tr}) (w3.setCell ⟨w1.heap.size,2,none⟩ (.slice A2 x.dest.length c2)) from fun W hW=>HK9.out.2.2.1.below hW)))
     replace I:=Lib.hid (Hd.and I.out (Hd.rows HK9.out.2.2.2.1))
     replace I:=Lib.hid (Hd.and I.out (Hd.rows HK9.out.2.2.2.2))
     replace I:=Lib.hid (Hd.and I.out (Hd.box (show _=some (Obj.cells #[.int .u8 k,.slice A1 x.p.length c1,.slice A2 x.dest.length c2,.int .i64 wy] 79 (0,0)) from HK9.out.1)))
     generalize (w3.setCell ⟨w1.heap.size,2,none⟩ (.slice A2 x.dest.length c2))=W9 at *
     have hqd:=bdrew (Below.refl W9.heap.size W9)
     replace I:=Lib.hid (Hd.mv I.out hqd)
     have HFS9:=Lib.hid I.out.now.2.2.2.1
     obtain ⟨A5,c5,v5,m5,lo5,hi5,hbox5,hle5,hiv5,hsep5,htr5,htb5,hfl5,hOm5,hOlt5⟩:=I.out.now.2.2.2.1
     unfold fsCells at hbox5
     obtain ⟨AT5,ct5,rfl⟩:=Kd.R_slice htr5
     simp only at hbox5 hle5 htr5 hfl5 hiv5
     have HG5:=Lib.hid hbox5
     have HIV5:=Lib.hid hiv5
     have HTR5:=Lib.hid htr5
     have HTB5:=Lib.hid htb5
     have HFL5:=Lib.hid hfl5
     have hgl5:=blk_lt hbox5
     have hml5:=hfl5.lt
     have hmg5:=hfl5.ne hbox5
     have hcl5:=blk_lt I.out.now.1
     have hbw5:=I.out.now.2.2.2.2.2
     have hsw5:=hbw5.size
     have htl5:∀ k,tb=some k→O k:=fun k e=>by
      have h:=((Kd.R_bound HTR0.out).1 k (HTB0.out.trans e)).1
      exact h
     have hlt0:∀ k,O k→k<w.heap.size:=HFS0.out.lts
     have hso5:=HO5.out.size
     clear hbox5 hiv5 htr5 htb5 hfl5
     refine start_ (n:=11) (S:=fun w'=>w'.heap[g]? = some (.cells #[.string tr.name,.int .u8 tr.kind,.string tr.data,.slice A5 tr.files.length c5,.slice AT5 f.trace.length ct5,.map (some m5)] 68 (0,0))∧w'.heap[w1.heap.size]? = some (.cells #[.int .u8 k,.slice A1 x.p.length c1,.slice A2 x.dest.length c2,.int .i64 wy] 79 (0,0))) (ds:=[10]) (bq 11 0) (by kernel_rfl) rfl rfl ⟨HG5.out,I.out.now.1⟩ (fun hHeld => ?_)
     generalize W9.drew=WD at *
     refine pA 0 58 (bq 11 1) ?_
     refine pA 1 59 (bq 11 3) ?_
     refine pA 2 60 (bq 11 7) ?_
     refine pA 3 61 (bq 11 15) ?_
     refine tA 4 62 (bq 11 31) hHeld ?_ (hy:=by
      rintro w' ⟨s0,s1⟩
      have q0:=cell_of (j:=0) s0 rfl
      have q1:=cell_of (j:=1) s0 rfl
      have q2:=cell_of (j:=2) s0 rfl
      have q3:=cell_of (j:=3) s0 rfl
      have q4:=cell_of (j:=4) s0 rfl
      have q5:=cell_of (j:=5) s0 rfl
      go_simp
      with_reducible rfl)
     refine tA 5 63 (bq 11 63) hHeld ?_ (hy:=by
      rintro w' ⟨s0,s1⟩
      have q0:=cell_of (j:=0) s1 rfl
      have q1:=cell_of (j:=1) s1 rfl
      have q2:=cell_of (j:=2) s1 rfl
      have q3:=cell_of (j:=3) s1 rfl
      go_simp
      with_reducible rfl)
     refine eA 6 64 (bq 11 127) (fun K hK => ?_)
     refine vA ?_
     have hba:=below_alloc (Below.refl WD.heap.size WD) (.cells #[.int .u8 k,.slice A1 x.p.length c1,.slice A2 x.dest.length c2,.int .i64 wy] 79)
     refine hK.out _ _ ⟨(hba.block _ hgl5).trans HG5.out,(hba.block _ hcl5).trans I.out.now.1⟩ (fun hHeld => ?_)
     refine nA 64 ?_
     refine eA 7 65 (bq 11 255) (fun K hK => ?_)
     refine Kd.R_append_step CallK (w0:=WD) 0 (by rfl) (.tmp 62) (.tmp 64) 34 79 (.agg #[.int .u8 0,.slice none 0 0,.slice none 0 0,.int .i64 0]) 64 rfl Tryz.underlying34 info_call rfl (by decide) (by omega) (.slice AT5 f.trace.length ct5) f.trace ⟨k,x.p,x.dest,wy⟩ [.int .u8 k,.slice A1 x.p.length c1,.slice A2 x.dest.length c2,.int .i64 wy] (fun j=>O j∨w.heap.size≤j) (fun j=>W5.heap.size≤j) rfl rfl ?aP ?aK ?aF ?aO ?aB ?aS ?aL ?_
     case aP=>exact call_mkM _ 0 _ ⟨k,x.p,x.dest,wy⟩ (Kd.R_lower (Kd.R_mono (Kd.R_bound I.out.now.2.2.1) fun j hj=>hj.2.1) (Nat.zero_le _)) (Kd.R_lower (Kd.R_mono (Kd.R_bound I.out.now.2.1) fun j hj=>by have:=hj.2.1;omega) (Nat.zero_le _))
     case aK=>exact fun j hj=>⟨.inr (by omega),fun e=>by
      have h:=htl5 j (HTB5.out.symm.trans e.symm)
      have:=hlt0 j h
      omega⟩
     case aF=>exact fun j hj=>.inr (by omega)
     case aO=>exact Kd.R_mono HTR5.out fun j hj=>hj.imp id fun h=>h.1
     case aB=>exact Below.refl _ _
     case aS=>exact Nat.zero_le _
     case aL=>omega
     intro v2 w2 ho2 hb2 hg2 hat2
     have HO2:=Lib.hid ho2
     have HB2':=Lib.hid hb2
     have hs2':=hg2.size
     have HOG:=Lib.hid (Only.grown_of hg2)
     have hne2:∀ j,(O j→tb≠some j)→j<WD.heap.size→w2.heap[j]? = WD.heap[j]? := fun j hj hl=>hg2.block j hl (fun e=>by
      have e2:=HTB5.out.symm.trans e.symm
      exact hj (htl5 j e2) e2)
     have HG6:=Lib.hid ((hne2 g (fun h=>absurd h hgO) hgl5).trans HG5.out)
     have HC6:=Lib.hid ((hne2 w1.heap.size (fun h=>by have:=hlt0 _ h;omega) hcl5).trans I.out.now.1)
     have HIV6:=Lib.hid (HIV5.out.mv fun j h1 h2=>hne2 j (fun _=>(hsep5 j h1 h2).2.2) (HFS9.out.lts j (hsep5 j h1 h2).1))
     have HFL6:=Lib.hid (HFL5.out.mv (hne2 m5 (fun _ => ?aM) hml5))
     case aM =>
      intro e
      obtain ⟨cells,hc⟩:=Kd.R_typed HTR5.out m5 (HTB5.out.trans e)
      obtain ⟨es,clock,hm,_⟩:=HFL5.out
      rw [hm] at hc
      cases hc
     have HX6:Hid (∀ j,j<WD.heap.size→tb≠some j→w2.heap[j]? = WD.heap[j]?):=Lib.hid fun j hl h=>hne2 j (fun _=>h) hl
     have HV2:Hid (v2.ownBlock=tb∨∃ b,v2.ownBlock=some b∧WD.heap.size≤b):=Lib.hid (hat2.imp (fun h=>h.trans HTB5.out) id)
     obtain ⟨AT6,ct6,rfl⟩:=Kd.R_slice ho2
     clear ho2 hb2 hg2 hat2 hne2
     have hlen6:(f.trace++[(⟨k,x.p,x.dest,wy⟩:Call)]).length=f.trace.length+1:=by simp
     rw [hlen6] at HO2 HV2
     refine hK.out _ _ ⟨HG6.out,HC6.out⟩ (fun hHeld => ?_)
     refine nA 65 ?_
     refine pA 8 66 (bq 11 511) ?_
     refine pA 9 67 (bq 11 1023) ?_
     refine last_ (i:=10) (N:=none) (bq 11 2047) rfl rfl (by kernel_rfl) (by decide) (fun K hK => ?_)
     have zg4:=cell_of (j:=4) HG6.out rfl
     have ug4:=unfr HG6.out 4
     refine sA ?_
     refine hK.out _ _ ?_
     refine done_ (by kernel_rfl) ?_
     go_wp2_with fail
     go_ret
     have hcv:callV f k x=(⟨tr,f.trace++[⟨k,x.p,x.dest,wy⟩],f.faults⟩,tl,wy):=by
      unfold callV
      rw [if_pos ⟨HB1.out,HB2.out⟩]
      simp only [HRS.out,HDL.out]
     rw [hcv]
     have hz9:(w2.setCell ⟨g,4,none⟩ (.slice AT6 (f.trace.length+1) ct6)).heap.size=w2.heap.size:=by simp [World.setCell]
     have htb9:∀ j,tb=some j→j<w.heap.size:=fun j e=>hlt0 j (htl5 j e)
     refine ⟨rfl,⟨_,HV2.out.imp id (fun ⟨b,e,h⟩=>⟨b,e,by omega⟩),?_⟩,?_,?_⟩
     ·refine ⟨A5,c5,.slice AT6 (f.trace.length+1) ct6,m5,lo5,hi5,?_,hle5,HIV6.out.mv fun k h1 h2=>Below.heap_setCell _ _ _ _ (hsep5 k h1 h2).2.1,fun k h1 h2=>⟨(hsep5 k h1 h2).1.imp id fun h=>⟨h.1,by omega⟩,(hsep5 k h1 h2).2.1,fun e => ?_⟩,?_,rfl,HFL6.out.mv (Below.heap_setCell _ _ _ _ hmg5),hOm5.imp id fun h=>⟨h.1,by omega⟩,fun k h=>h.elim (fun h=>by have:=hlt0 k h;omega) fun h=>h.2⟩
      ·have h:=blk_put (cs:=#[.string tr.name,.int .u8 tr.kind,.string tr.data,.slice A5 tr.files.length c5,.slice AT5 f.trace.length ct5,.map (some m5)]) HG6.out 4 (.slice AT6 (f.trace.length+1) ct6) rfl
       exact h
      ·rcases HV2.out with h | ⟨b,h,hb⟩
       ·exact (hsep5 k h1 h2).2.2 (h.symm.trans e)
       ·have h9:=HFS9.out.lts k (hsep5 k h1 h2).1
        rw [h] at e
        injection e with e
        omega
      ·exact Kd.R_mono (Kd.R_bound (Kd.R_step (Kd.R_types HO2.out HG6.out (by decide)) fun k hk _=>Below.heap_setCell _ _ _ _ hk.2)) fun k hk=>hk.1.1.imp id fun h=>⟨h,hk.2.2.1⟩
     ·exact (Below.heap_setCell _ _ _ _ hrg).trans ((HX6.out r (by omega) (fun e=>hrO (htl5 r e))).trans I.out.now.2.2.2.2.1)
     ·exact ((HO5.out.trans (Only.of_belowV hbw5 fun _=>False) (K:=fun k=>k=g∨k=r∨tb=some k) (fun _ _ h=>h.elim .inl fun h=>.inr (.inl h)) (fun _ _ h=>h.elim)).trans HOG.out (fun _ _ h=>h) (fun _ _ h=>.inr (.inr (HTB5.out.symm.trans h)))).trans (Only.setCell _ _ _) (fun _ _ h=>h) (fun _ _ h=>.inl h)
   clear hK1
   cases bf
   ·skip
    go_wp2_with fail
    refine (kinds_calls W3).mono ?_
    rintro e w4 ⟨rfl,HKD,hq4⟩
    replace I:=Lib.hid (Hd.mv I.out hq4)
    have hbw4:=I.out.now.2.2.2.2.2
    have HFS4:=Lib.hid (HFS0.out.below hbw4)
    have hs4:=hbw4.size
    have HRQ4:=Lib.hid I.out.now.2.2.2.1
    have HKL:=Lib.hid (lookup_kinds w4 _ k HKD h1 h5)
    rw [kindF_N] at HKL
    clear HKD
    have HOP:=Lib.hid (show opR k f.tree x=(tr,tl,wy) from (if_neg (of_decide_eq_false HBF.out)).symm.trans HRS.out)
    have hk5:k=1∨k=2∨k=3∨k=4∨k=5:=by omega
    rcases hk5 with hk | hk | hk | hk | hk
    ·skip
     have HKN:=Lib.hid (show kindN k=96 by rw [hk];rfl)
     clear hk
     have hlk:=HKL.out
     rw [HKN.out] at hlk
     go_wp2_with fail
     have hop:=op_fs k h1 h5 w4 g r O tb f x Ap cp Ad cd HFS4.out HRQ4.out hrg hrO hbt I.out.now.2.2.1 hcp hps I.out.now.2.1 hcd hpt hdb
     rw [HKN.out,HOP.out] at hop
     refine hop.mono ?_
     rintro e w5 ⟨rfl,hfs5,hr5,ho5⟩
     clear hlk hop
     have HA5:=Lib.hid (show FsAt w5 g (fun k=>O k∨w.heap.size≤k∧k<w5.heap.size) tb {f with tree:=tr}∧w5.heap[r]? = some (.cells (reqCells x Ap cp Ad cd tl) 97 (0,0))∧Only (fun k=>k=g∨k=r) w w5 from ⟨hfs5.mono (O':=fun k=>O k∨w.heap.size≤k∧k<w5.heap.size) (fun k h=>h.imp id fun h=>⟨Nat.le_trans hs4 h.1,h.2⟩) (fun k h=>h.elim (fun h=>Nat.lt_of_lt_of_le (HFS0.out.lts k h) (Nat.le_trans hs4 ho5.size)) fun h=>h.2),hr5,(Only.of_belowV hbw4 (fun _=>False)).trans ho5 (K:=fun k=>k=g∨k=r) (fun _ _ h=>h.elim) (fun _ _ h=>h)⟩)
     clear hfs5 hr5 ho5
     go_wp2_with fail
     exact HT.out _ w5 ⟨⟨_,_,_,_,_,_,_,_,_,_,_,_,_,_,_,_,_,_,_,_,_,_,_,_,_,_,_,_,_,_,_,_,_,_,_,_,_,_,_,_,_,_,_,_,_,_,_,_,_,_,_,_,_,_,_,_,_,_,_,_,_,_,_,_,_,rfl⟩,HA5.out⟩
    ·skip
     have HKN:=Lib.hid (show kindN k=97 by rw [hk];rfl)
     clear hk
     have hlk:=HKL.out
     rw [HKN.out] at hlk
     go_wp2_with fail
     have hop:=op_fs k h1 h5 w4 g r O tb f x Ap cp Ad cd HFS4.out HRQ4.out hrg hrO hbt I.out.now.2.2.1 hcp hps I.out.now.2.1 hcd hpt hdb
     rw [HKN.out,HOP.out] at hop
     refine hop.mono ?_
     rintro e w5 ⟨rfl,hfs5,hr5,ho5⟩
     clear hlk hop
     have HA5:=Lib.hid (show FsAt w5 g (fun k=>O k∨w.heap.size≤k∧k<w5.heap.size) tb {f with tree:=tr}∧w5.heap[r]? = some (.cells (reqCells x Ap cp Ad cd tl) 97 (0,0))∧Only (fun k=>k=g∨k=r) w w5 from ⟨hfs5.mono (O':=fun k=>O k∨w.heap.size≤k∧k<w5.heap.size) (fun k h=>h.imp id fun h=>⟨Nat.le_trans hs4 h.1,h.2⟩) (fun k h=>h.elim (fun h=>Nat.lt_of_lt_of_le (HFS0.out.lts k h) (Nat.le_trans hs4 ho5.size)) fun h=>h.2),hr5,(Only.of_belowV hbw4 (fun _=>False)).trans ho5 (K:=fun k=>k=g∨k=r) (fun _ _ h=>h.elim) (fun _ _ h=>h)⟩)
     clear hfs5 hr5 ho5
     go_wp2_with fail
     exact HT.out _ w5 ⟨⟨_,_,_,_,_,_,_,_,_,_,_,_,_,_,_,_,_,_,_,_,_,_,_,_,_,_,_,_,_,_,_,_,_,_,_,_,_,_,_,_,_,_,_,_,_,_,_,_,_,_,_,_,_,_,_,_,_,_,_,_,_,_,_,_,_,rfl⟩,HA5.out⟩
    ·skip
     have HKN:=Lib.hid (show kindN k=98 by rw [hk];rfl)
     clear hk
     have hlk:=HKL.out
     rw [HKN.out] at hlk
     go_wp2_with fail
     have hop:=op_fs k h1 h5 w4 g r O tb f x Ap cp Ad cd HFS4.out HRQ4.out hrg hrO hbt I.out.now.2.2.1 hcp hps I.out.now.2.1 hcd hpt hdb
     rw [HKN.out,HOP.out] at hop
     refine hop.mono ?_
     rintro e w5 ⟨rfl,hfs5,hr5,ho5⟩
     clear hlk hop
     have HA5:=Lib.hid (show FsAt w5 g (fun k=>O k∨w.heap.size≤k∧k<w5.heap.size) tb {f with tree:=tr}∧w5.heap[r]? = some (.cells (reqCells x Ap cp Ad cd tl) 97 (0,0))∧Only (fun k=>k=g∨k=r) w w5 from ⟨hfs5.mono (O':=fun k=>O k∨w.heap.size≤k∧k<w5.heap.size) (fun k h=>h.imp id fun h=>⟨Nat.le_trans hs4 h.1,h.2⟩) (fun k h=>h.elim (fun h=>Nat.lt_of_lt_of_le (HFS0.out.lts k h) (Nat.le_trans hs4 ho5.size)) fun h=>h.2),hr5,(Only.of_belowV hbw4 (fun _=>False)).trans ho5 (K:=fun k=>k=g∨k=r) (fun _ _ h=>h.elim) (fun _ _ h=>h)⟩)
     clear hfs5 hr5 ho5
     go_wp2_with fail
     exact HT.out _ w5 ⟨⟨_,_,_,_,_,_,_,_,_,_,_,_,_,_,_,_,_,_,_,_,_,_,_,_,_,_,_,_,_,_,_,_,_,_,_,_,_,_,_,_,_,_,_,_,_,_,_,_,_,_,_,_,_,_,_,_,_,_,_,_,_,_,_,_,_,rfl⟩,HA5.out⟩
    ·skip
     have HKN:=Lib.hid (show kindN k=99 by rw [hk];rfl)
     clear hk
     have hlk:=HKL.out
     rw [HKN.out] at hlk
     go_wp2_with fail
     have hop:=op_fs k h1 h5 w4 g r O tb f x Ap cp Ad cd HFS4.out HRQ4.out hrg hrO hbt I.out.now.2.2.1 hcp hps I.out.now.2.1 hcd hpt hdb
     rw [HKN.out,HOP.out] at hop
     refine hop.mono ?_
     rintro e w5 ⟨rfl,hfs5,hr5,ho5⟩
     clear hlk hop
     have HA5:=Lib.hid (show FsAt w5 g (fun k=>O k∨w.heap.size≤k∧k<w5.heap.size) tb {f with tree:=tr}∧w5.heap[r]? = some (.cells (reqCells x Ap cp Ad cd tl) 97 (0,0))∧Only (fun k=>k=g∨k=r) w w5 from ⟨hfs5.mono (O':=fun k=>O k∨w.heap.size≤k∧k<w5.heap.size) (fun k h=>h.imp id fun h=>⟨Nat.le_trans hs4 h.1,h.2⟩) (fun k h=>h.elim (fun h=>Nat.lt_of_lt_of_le (HFS0.out.lts k h) (Nat.le_trans hs4 ho5.size)) fun h=>h.2),hr5,(Only.of_belowV hbw4 (fun _=>False)).trans ho5 (K:=fun k=>k=g∨k=r) (fun _ _ h=>h.elim) (fun _ _ h=>h)⟩)
     clear hfs5 hr5 ho5
     go_wp2_with fail
     exact HT.out _ w5 ⟨⟨_,_,_,_,_,_,_,_,_,_,_,_,_,_,_,_,_,_,_,_,_,_,_,_,_,_,_,_,_,_,_,_,_,_,_,_,_,_,_,_,_,_,_,_,_,_,_,_,_,_,_,_,_,_,_,_,_,_,_,_,_,_,_,_,_,rfl⟩,HA5.out⟩
    ·skip
     have HKN:=Lib.hid (show kindN k=100 by rw [hk];rfl)
     clear hk
     have hlk:=HKL.out
     rw [HKN.out] at hlk
     go_wp2_with fail
     have hop:=op_fs k h1 h5 w4 g r O tb f x Ap cp Ad cd HFS4.out HRQ4.out hrg hrO hbt I.out.now.2.2.1 hcp hps I.out.now.2.1 hcd hpt hdb
     rw [HKN.out,HOP.out] at hop
     refine hop.mono ?_
     rintro e w5 ⟨rfl,hfs5,hr5,ho5⟩
     clear hlk hop
     have HA5:=Lib.hid (show FsAt w5 g (fun k=>O k∨w.heap.size≤k∧k<w5.heap.size) tb {f with tree:=tr}∧w5.heap[r]? = some (.cells (reqCells x Ap cp Ad cd tl) 97 (0,0))∧Only (fun k=>k=g∨k=r) w w5 from ⟨hfs5.mono (O':=fun k=>O k∨w.heap.size≤k∧k<w5.heap.size) (fun k h=>h.imp id fun h=>⟨Nat.le_trans hs4 h.1,h.2⟩) (fun k h=>h.elim (fun h=>Nat.lt_of_lt_of_le (HFS0.out.lts k h) (Nat.le_trans hs4 ho5.size)) fun h=>h.2),hr5,(Only.of_belowV hbw4 (fun _=>False)).trans ho5 (K:=fun k=>k=g∨k=r) (fun _ _ h=>h.elim) (fun _ _ h=>h)⟩)
     clear hfs5 hr5 ho5
     go_wp2_with fail
     exact HT.out _ w5 ⟨⟨_,_,_,_,_,_,_,_,_,_,_,_,_,_,_,_,_,_,_,_,_,_,_,_,_,_,_,_,_,_,_,_,_,_,_,_,_,_,_,_,_,_,_,_,_,_,_,_,_,_,_,_,_,_,_,_,_,_,_,_,_,_,_,_,_,rfl⟩,HA5.out⟩
   ·skip
    have HRS2:=(if_pos (of_decide_eq_true HBF.out)).symm.trans HRS.out
    obtain ⟨rfl,rfl,rfl⟩:f.tree=tr∧told0 x.data=tl∧(42:Int)=wy:=by simpa using HRS2
    have HA5:=Lib.hid (show FsAt W3 g (fun k=>O k∨w.heap.size≤k∧k<W3.heap.size) tb {f with tree:=f.tree}∧W3.heap[r]? = some (.cells (reqCells x Ap cp Ad cd (told0 x.data)) 97 (0,0))∧Only (fun k=>k=g∨k=r) w W3 from ⟨HFS3.out.mono (O':=fun k=>O k∨w.heap.size≤k∧k<W3.heap.size) (fun k h=>.inl h) (fun k h=>h.elim (fun h=>HFS3.out.lts k h) fun h=>h.2),HRQ3.out,Only.of_belowV hbw3 (fun k=>k=g∨k=r)⟩)
    clear HRS2
    go_wp2_with fail
    exact HT.out _ W3 ⟨⟨_,_,_,_,_,_,_,_,_,_,_,_,_,_,_,_,_,_,_,_,_,_,_,_,_,_,_,_,_,_,_,_,_,_,_,_,_,_,_,_,_,_,_,_,_,_,_,_,_,_,_,_,_,_,_,_,_,_,_,_,_,_,_,_,_,rfl⟩,HA5.out⟩
end Go.Proofs.YthlcjjhfkldmhaaGreatDoor.G
end
section
namespace Go.Proofs.YthlcjjhfkldmhaaGreatDoor.G
open Go.RowKit Go.Lib Go.Proofs.YthlcjjhfkldmhaaGreatDoorW.PrintWords Go.Proofs.YthlcjjhfkldmhaaGreatDoorW.PrintLast
set_option linter.unusedVariables false
set_option linter.unusedSimpArgs false
def FsPost (w:World) (g:Nat) (O:Nat→Prop) (tb:Option Nat) (f':FsV) (w':World):Prop :=
 (∃ tb',(tb'=tb∨∃ j,tb'=some j∧w.heap.size≤j)∧FsAt w' g (fun k=>O k∨w.heap.size≤k∧k<w'.heap.size) tb' f')∧Only (fun k=>k=g∨tb=some k) w w'
abbrev PathAt (w:World) (g:Nat) (tb:Option Nat) (A:Option Addr) (p:List ByteArray):Prop:=Kd.F Kd.string w (fun k=>k≠g∧tb≠some k) A p.length p
theorem fsPost_lift {w W w':World} {g:Nat} {O:Nat→Prop} {tb:Option Nat} {f f':FsV} (hfs:FsAt w g O tb f) (hb:Below w.heap.size w W) {F:Nat→Prop} (hF:∀ k,k<w.heap.size→F k→k=g∨tb=some k)
  {tb':Option Nat} (ht:tb'=tb∨∃ j,tb'=some j∧W.heap.size≤j) (h:FsAt w' g (fun k=>O k∨W.heap.size≤k∧k<w'.heap.size) tb' f') (ho:Only F W w'):FsPost w g O tb f' w':=by
 have hs:=hb.size
 have hs':=ho.size
 refine ⟨⟨tb',ht.imp id fun ⟨j,e,h⟩=>⟨j,e,Nat.le_trans hs h⟩,h.mono (fun k hk=>hk.imp id fun hk=>⟨Nat.le_trans hs hk.1,hk.2⟩) fun k hk=>hk.elim (fun hk=>Nat.lt_of_lt_of_le (hfs.lts k hk) (Nat.le_trans hs hs')) fun hk=>hk.2⟩,?_⟩
 exact (Only.of_belowV hb (fun _=>False)).trans ho (fun _ _ h=>h.elim) hF
theorem pathAt_req {w:World} {g r:Nat} {tb:Option Nat} {A:Option Addr} {p:List ByteArray} (h:PathAt w g tb A p) {W:World} (hb:Below w.heap.size w W) (hr:w.heap.size≤r):Kd.F Kd.string W (fun k=>k≠g∧k≠r∧tb≠some k) A p.length p :=
 Kd.F_below (Kd.F_mono (Kd.F_bound h) fun k hk=>⟨hk.1.1,by have:=hk.2;omega,hk.1.2⟩) hb
set_option maxHeartbeats 4000000 in
set_option maxRecDepth 100000 in
theorem lstat_api (w:World) (g:Nat) (O:Nat→Prop) (tb:Option Nat) (f:FsV) (hfs:FsAt w g O tb f) (hgO:¬ O g) (hbt:f.tree.bulk≤100000000) (htl:f.trace.length≤2000000) (Ap:Option Addr) (cp:Nat) (p:List ByteArray) (HP:PathAt w g tb Ap p) (hcp:p.length≤cp) (hpB:P.sumP p≤1099511627776) :
  Calls Tryz.prog 23 #[.pointer (some ⟨g,0,none⟩),.slice Ap p.length cp] w fun e w'=>e=.returned (.tuple #[.agg #[.int .u8 (callV f 1 ⟨p,[],⟨#[]⟩⟩).2.1.kind,.int .i64 (callV f 1 ⟨p,[],⟨#[]⟩⟩).2.1.size],.int .i64 (callV f 1 ⟨p,[],⟨#[]⟩⟩).2.2])∧FsPost w g O tb (callV f 1 ⟨p,[],⟨#[]⟩⟩).1 w':=by
 have h2:=two_boxes w #[.int .u8 0,.int .i64 0] #[.slice Ap p.length cp,.slice none 0 0,.string ⟨#[]⟩,.int .u8 0,.int .i64 0] 44 97
 have hb0:=((Below.refl w.heap.size w).alloc (Nat.le_refl _) (.cells #[.int .u8 0,.int .i64 0] 44)).alloc (by simp) (.cells #[.slice Ap p.length cp,.slice none 0 0,.string ⟨#[]⟩,.int .u8 0,.int .i64 0] 97)
 have hgl:=hfs.lt
 have hlts:=hfs.lts
 have HFS:=Lib.hid hfs
 have HF0:=Lib.hid (hfs.below hb0)
 have HR0:=Lib.hid h2.2
 have HP0:=Lib.hid (pathAt_req (r:=(w.heap.size+1)) HP hb0 (by omega))
 have hs0:=hb0.size
 have HB0:=Lib.hid hb0
 have HS0:=Lib.hid h2.1
 clear h2
 obtain ⟨⟨f',tl,wy⟩,hres⟩:∃ r,callV f 1 ⟨p,[],⟨#[]⟩⟩=r:=⟨_,rfl⟩
 have HRES:=Lib.hid hres
 rw [hres]
 clear hres hfs HP hb0
 go_enter Tryz.func23,Tryz.ntmps23
 go_wp2_with fail
 generalize ((w.alloc (.cells #[.int .u8 0,.int .i64 0] 44)).alloc (.cells #[.slice Ap p.length cp,.slice none 0 0,.string ⟨#[]⟩,.int .u8 0,.int .i64 0] 97))=W0 at *
 have hc:=call_fs 1 (by omega) (by omega) W0 g (w.heap.size+1) O tb f ⟨p,[],⟨#[]⟩⟩ Ap cp none 0 HF0.out HR0.out (by omega) (fun h=>by have:=hlts _ h;omega) hgO hbt HP0.out hcp hpB (Kd.F_nil _ _ _) (Nat.le_refl _) (by show P.sumP []≤_;have:P.sumP []=0:=rfl;omega) (by show (0:Nat)≤_;omega) htl
 rw [HRES.out] at hc
 refine (show Calls Tryz.prog 46 #[.pointer (some ⟨g,0,none⟩),.int .u8 1,.pointer (some ⟨(w.heap.size+1),0,none⟩)] W0 _ from hc).mono ?_
 clear hc
 rintro e w1 ⟨rfl,⟨tb',htb,hfs1⟩,hr1,ho1⟩
 unfold reqCells at hr1
 have HF1:=Lib.hid hfs1
 have HR1:=Lib.hid hr1
 have HO1:=Lib.hid ho1
 have HTB:=Lib.hid htb
 have hs1:=ho1.size
 have hsl:=blk_lt HS0.out
 have hq0:∀ k,O k→k≠w.heap.size:=fun k h=>by have:=hlts k h;omega
 have htb0:tb≠some w.heap.size:=fun e=>by
  obtain ⟨A,c,v,m,lo,hi,_,_,_,_,h5,h6,_⟩:=HFS.out
  have:=Kd.R_lt h5 w.heap.size (h6.trans e)
  omega
 have HS1:=Lib.hid ((ho1.block w.heap.size hsl (fun h=>by rcases h with h | h | h;(· omega);(· omega);(· exact htb0 h))).trans HS0.out)
 clear hfs1 hr1 ho1 htb
 obtain ⟨lr0,lr1,lr2,lr3,lr4⟩:=c5A HR1.out
 obtain ⟨ls0,ls1⟩:=c2A HS1.out
 obtain ⟨lf0,lf1⟩:=u2A HS1.out
 go_wp2_with fail
 have HS2:=Lib.hid (blk_put (blk_put HS1.out 0 (.int .u8 tl.kind) rfl) 1 (.int .i64 tl.size) rfl)
 refine bodyPost_ret (results_ct rfl _ _ w.heap.size 44 #[.int .u8 tl.kind,.int .i64 tl.size] (0,0) _ rfl HS2.out Tryz.underlying44 rfl (by kernel_rfl)) rfl ?_
 have hne:∀ k,k≠w.heap.size→((w1.setCell ⟨w.heap.size,0,none⟩ (.int .u8 tl.kind)).setCell ⟨w.heap.size,1,none⟩ (.int .i64 tl.size)).heap[k]? = w1.heap[k]? := fun k hk=>by rw [Below.heap_setCell _ _ _ _ hk,Below.heap_setCell _ _ _ _ hk]
 have hz:((w1.setCell ⟨w.heap.size,0,none⟩ (.int .u8 tl.kind)).setCell ⟨w.heap.size,1,none⟩ (.int .i64 tl.size)).heap.size=w1.heap.size:=by simp [World.setCell]
 have hF2:=HF1.out
 have hO2:=HO1.out
 refine ⟨rfl,?_⟩
 have HK:FsAt ((w1.setCell ⟨w.heap.size,0,none⟩ (.int .u8 tl.kind)).setCell ⟨w.heap.size,1,none⟩ (.int .i64 tl.size)) g (fun k=>O k∨w.heap.size≤k∧k<((w1.setCell ⟨w.heap.size,0,none⟩ (.int .u8 tl.kind)).setCell ⟨w.heap.size,1,none⟩ (.int .i64 tl.size)).heap.size) tb' f' := ?k1
 case k1 =>
  refine FsAt.mono (O:=fun k=>O k∨W0.heap.size≤k∧k<w1.heap.size) (hF2.keep (fun k hk=>hne k ?_) (by omega)) (fun k hk=>hk.imp id fun h=>⟨by omega,by omega⟩) (fun k hk=>hk.elim (fun h=>by have:=hlts k h;omega) fun h=>h.2)
  rcases hk with h | h | h
  ·omega
  ·exact hq0 k h
  ·omega
 refine ⟨⟨tb',HTB.out.imp id fun ⟨j,e,h⟩=>⟨j,e,by omega⟩,HK⟩,?_⟩
 have h1:Only (fun k=>k=w.heap.size) w1 ((w1.setCell ⟨w.heap.size,0,none⟩ (.int .u8 tl.kind)).setCell ⟨w.heap.size,1,none⟩ (.int .i64 tl.size)):=(Only.setCell w1 ⟨w.heap.size,0,none⟩ (.int .u8 tl.kind)).trans (Only.setCell _ ⟨w.heap.size,1,none⟩ (.int .i64 tl.size)) (fun _ _ h=>h) (fun _ _ h=>h)
 exact ((Only.of_belowV HB0.out (fun _=>False)).trans hO2 (K:=fun k=>k=g∨tb=some k) (fun _ _ h=>h.elim) (fun k hk h=>by rcases h with h | h | h;(· exact .inl h);(· omega);(· exact .inr h))).trans h1 (fun _ _ h=>h) (fun k hk h=>by omega)
set_option maxHeartbeats 4000000 in
set_option maxRecDepth 100000 in
theorem read_api (w:World) (g:Nat) (O:Nat→Prop) (tb:Option Nat) (f:FsV) (hfs:FsAt w g O tb f) (hgO:¬ O g) (hbt:f.tree.bulk≤100000000) (htl:f.trace.length≤2000000) (Ap:Option Addr) (cp:Nat) (p:List ByteArray) (HP:PathAt w g tb Ap p) (hcp:p.length≤cp) (hpB:P.sumP p≤1099511627776) :
  Calls Tryz.prog 24 #[.pointer (some ⟨g,0,none⟩),.slice Ap p.length cp] w fun e w'=>e=.returned (.tuple #[.string (callV f 2 ⟨p,[],⟨#[]⟩⟩).2.1.data,.int .i64 (callV f 2 ⟨p,[],⟨#[]⟩⟩).2.2])∧FsPost w g O tb (callV f 2 ⟨p,[],⟨#[]⟩⟩).1 w':=by
 have hb0:=below_alloc (Below.refl w.heap.size w) (.cells #[.slice Ap p.length cp,.slice none 0 0,.string ⟨#[]⟩,.int .u8 0,.int .i64 0] 97)
 have hgl:=hfs.lt
 have hlts:=hfs.lts
 have HFS:=Lib.hid hfs
 have HF0:=Lib.hid (hfs.below hb0)
 have HR0:=Lib.hid (blk_new w (.cells #[.slice Ap p.length cp,.slice none 0 0,.string ⟨#[]⟩,.int .u8 0,.int .i64 0] 97))
 have HP0:=Lib.hid (pathAt_req (r:=w.heap.size) HP hb0 (by omega))
 have hs0:=hb0.size
 have HB0:=Lib.hid hb0
 obtain ⟨⟨f',tl,wy⟩,hres⟩:∃ r,callV f 2 ⟨p,[],⟨#[]⟩⟩=r:=⟨_,rfl⟩
 have HRES:=Lib.hid hres
 rw [hres]
 clear hres hfs HP hb0
 go_enter Tryz.func24,Tryz.ntmps24
 go_wp2_with fail
 generalize (w.alloc (.cells #[.slice Ap p.length cp,.slice none 0 0,.string ⟨#[]⟩,.int .u8 0,.int .i64 0] 97))=W0 at *
 have hc:=call_fs 2 (by omega) (by omega) W0 g w.heap.size O tb f ⟨p,[],⟨#[]⟩⟩ Ap cp none 0 HF0.out HR0.out (by omega) (fun h=>by have:=hlts _ h;omega) hgO hbt HP0.out hcp hpB (Kd.F_nil _ _ _) (Nat.le_refl _) (by show P.sumP []≤_;have:P.sumP []=0:=rfl;omega) (by show (0:Nat)≤_;omega) htl
 rw [HRES.out] at hc
 refine (show Calls Tryz.prog 46 #[.pointer (some ⟨g,0,none⟩),.int .u8 2,.pointer (some ⟨w.heap.size,0,none⟩)] W0 _ from hc).mono ?_
 clear hc
 rintro e w1 ⟨rfl,⟨tb',htb,hfs1⟩,hr1,ho1⟩
 unfold reqCells at hr1
 have HF1:=Lib.hid hfs1
 have HR1:=Lib.hid hr1
 have HO1:=Lib.hid ho1
 have HTB:=Lib.hid htb
 have hs1:=ho1.size
 clear hfs1 hr1 ho1 htb
 obtain ⟨lr0,lr1,lr2,lr3,lr4⟩:=c5A HR1.out
 go_wp2_with fail
 go_ret2
 exact ⟨rfl,fsPost_lift HFS.out HB0.out (fun k hk h=>by rcases h with h | h | h;(· exact .inl h);(· omega);(· exact .inr h)) HTB.out HF1.out HO1.out⟩
set_option maxHeartbeats 4000000 in
set_option maxRecDepth 100000 in
theorem create_api (w:World) (g:Nat) (O:Nat→Prop) (tb:Option Nat) (f:FsV) (hfs:FsAt w g O tb f) (hgO:¬ O g) (hbt:f.tree.bulk≤100000000) (htl:f.trace.length≤2000000) (Ap:Option Addr) (cp:Nat) (p:List ByteArray) (HP:PathAt w g tb Ap p) (hcp:p.length≤cp) (hpB:P.sumP p≤1099511627776) :
  Calls Tryz.prog 25 #[.pointer (some ⟨g,0,none⟩),.slice Ap p.length cp] w fun e w'=>e=.returned (.int .i64 (callV f 3 ⟨p,[],⟨#[]⟩⟩).2.2)∧FsPost w g O tb (callV f 3 ⟨p,[],⟨#[]⟩⟩).1 w':=by
 have hb0:=below_alloc (Below.refl w.heap.size w) (.cells #[.slice Ap p.length cp,.slice none 0 0,.string ⟨#[]⟩,.int .u8 0,.int .i64 0] 97)
 have hgl:=hfs.lt
 have hlts:=hfs.lts
 have HFS:=Lib.hid hfs
 have HF0:=Lib.hid (hfs.below hb0)
 have HR0:=Lib.hid (blk_new w (.cells #[.slice Ap p.length cp,.slice none 0 0,.string ⟨#[]⟩,.int .u8 0,.int .i64 0] 97))
 have HP0:=Lib.hid (pathAt_req (r:=w.heap.size) HP hb0 (by omega))
 have hs0:=hb0.size
 have HB0:=Lib.hid hb0
 obtain ⟨⟨f',tl,wy⟩,hres⟩:∃ r,callV f 3 ⟨p,[],⟨#[]⟩⟩=r:=⟨_,rfl⟩
 have HRES:=Lib.hid hres
 rw [hres]
 clear hres hfs HP hb0
 go_enter Tryz.func25,Tryz.ntmps25
 go_wp2_with fail
 generalize (w.alloc (.cells #[.slice Ap p.length cp,.slice none 0 0,.string ⟨#[]⟩,.int .u8 0,.int .i64 0] 97))=W0 at *
 have hc:=call_fs 3 (by omega) (by omega) W0 g w.heap.size O tb f ⟨p,[],⟨#[]⟩⟩ Ap cp none 0 HF0.out HR0.out (by omega) (fun h=>by have:=hlts _ h;omega) hgO hbt HP0.out hcp hpB (Kd.F_nil _ _ _) (Nat.le_refl _) (by show P.sumP []≤_;have:P.sumP []=0:=rfl;omega) (by show (0:Nat)≤_;omega) htl
 rw [HRES.out] at hc
 refine (show Calls Tryz.prog 46 #[.pointer (some ⟨g,0,none⟩),.int .u8 3,.pointer (some ⟨w.heap.size,0,none⟩)] W0 _ from hc).mono ?_
 clear hc
 rintro e w1 ⟨rfl,⟨tb',htb,hfs1⟩,hr1,ho1⟩
 unfold reqCells at hr1
 have HF1:=Lib.hid hfs1
 have HR1:=Lib.hid hr1
 have HO1:=Lib.hid ho1
 have HTB:=Lib.hid htb
 have hs1:=ho1.size
 clear hfs1 hr1 ho1 htb
 go_wp2_with fail
 go_ret
 exact ⟨rfl,fsPost_lift HFS.out HB0.out (fun k hk h=>by rcases h with h | h | h;(· exact .inl h);(· omega);(· exact .inr h)) HTB.out HF1.out HO1.out⟩
set_option maxHeartbeats 4000000 in
set_option maxRecDepth 100000 in
theorem append_api (w:World) (g:Nat) (O:Nat→Prop) (tb:Option Nat) (f:FsV) (hfs:FsAt w g O tb f) (hgO:¬ O g) (hbt:f.tree.bulk≤100000000) (htl:f.trace.length≤2000000) (Ap:Option Addr) (cp:Nat) (p:List ByteArray) (HP:PathAt w g tb Ap p) (hcp:p.length≤cp) (hpB:P.sumP p≤1099511627776) (d:ByteArray) (hd:d.size≤100000000) :
  Calls Tryz.prog 26 #[.pointer (some ⟨g,0,none⟩),.slice Ap p.length cp,.string d] w fun e w'=>e=.returned (.int .i64 (callV f 4 ⟨p,[],d⟩).2.2)∧FsPost w g O tb (callV f 4 ⟨p,[],d⟩).1 w':=by
 have hb0:=below_alloc (Below.refl w.heap.size w) (.cells #[.slice Ap p.length cp,.slice none 0 0,.string d,.int .u8 0,.int .i64 0] 97)
 have hgl:=hfs.lt
 have hlts:=hfs.lts
 have HFS:=Lib.hid hfs
 have HF0:=Lib.hid (hfs.below hb0)
 have HR0:=Lib.hid (blk_new w (.cells #[.slice Ap p.length cp,.slice none 0 0,.string d,.int .u8 0,.int .i64 0] 97))
 have HP0:=Lib.hid (pathAt_req (r:=w.heap.size) HP hb0 (by omega))
 have hs0:=hb0.size
 have HB0:=Lib.hid hb0
 obtain ⟨⟨f',tl,wy⟩,hres⟩:∃ r,callV f 4 ⟨p,[],d⟩=r:=⟨_,rfl⟩
 have HRES:=Lib.hid hres
 rw [hres]
 clear hres hfs HP hb0
 go_enter Tryz.func26,Tryz.ntmps26
 go_wp2_with fail
 generalize (w.alloc (.cells #[.slice Ap p.length cp,.slice none 0 0,.string d,.int .u8 0,.int .i64 0] 97))=W0 at *
 have hc:=call_fs 4 (by omega) (by omega) W0 g w.heap.size O tb f ⟨p,[],d⟩ Ap cp none 0 HF0.out HR0.out (by omega) (fun h=>by have:=hlts _ h;omega) hgO hbt HP0.out hcp hpB (Kd.F_nil _ _ _) (Nat.le_refl _) (by show P.sumP []≤_;have:P.sumP []=0:=rfl;omega) hd htl
 rw [HRES.out] at hc
 refine (show Calls Tryz.prog 46 #[.pointer (some ⟨g,0,none⟩),.int .u8 4,.pointer (some ⟨w.heap.size,0,none⟩)] W0 _ from hc).mono ?_
 clear hc
 rintro e w1 ⟨rfl,⟨tb',htb,hfs1⟩,hr1,ho1⟩
 unfold reqCells at hr1
 have HF1:=Lib.hid hfs1
 have HR1:=Lib.hid hr1
 have HO1:=Lib.hid ho1
 have HTB:=Lib.hid htb
 have hs1:=ho1.size
 clear hfs1 hr1 ho1 htb
 go_wp2_with fail
 go_ret
 exact ⟨rfl,fsPost_lift HFS.out HB0.out (fun k hk h=>by rcases h with h | h | h;(· exact .inl h);(· omega);(· exact .inr h)) HTB.out HF1.out HO1.out⟩
set_option maxHeartbeats 4000000 in
set_option maxRecDepth 100000 in
theorem rename_api (w:World) (g:Nat) (O:Nat→Prop) (tb:Option Nat) (f:FsV) (hfs:FsAt w g O tb f) (hgO:¬ O g) (hbt:f.tree.bulk≤100000000) (htl:f.trace.length≤2000000) (Ap:Option Addr) (cp:Nat) (p:List ByteArray) (HP:PathAt w g tb Ap p) (hcp:p.length≤cp) (hpB:P.sumP p≤1099511627776) (Aq:Option Addr) (cq:Nat) (q:List ByteArray) (HQ:PathAt w g tb Aq q) (hcq:q.length≤cq) (hqB:P.sumP q≤1099511627776) :
  Calls Tryz.prog 27 #[.pointer (some ⟨g,0,none⟩),.slice Ap p.length cp,.slice Aq q.length cq] w fun e w'=>e=.returned (.int .i64 (callV f 5 ⟨p,q,⟨#[]⟩⟩).2.2)∧FsPost w g O tb (callV f 5 ⟨p,q,⟨#[]⟩⟩).1 w':=by
 have hb0:=below_alloc (Below.refl w.heap.size w) (.cells #[.slice Ap p.length cp,.slice Aq q.length cq,.string ⟨#[]⟩,.int .u8 0,.int .i64 0] 97)
 have hgl:=hfs.lt
 have hlts:=hfs.lts
 have HFS:=Lib.hid hfs
 have HF0:=Lib.hid (hfs.below hb0)
 have HR0:=Lib.hid (blk_new w (.cells #[.slice Ap p.length cp,.slice Aq q.length cq,.string ⟨#[]⟩,.int .u8 0,.int .i64 0] 97))
 have HP0:=Lib.hid (pathAt_req (r:=w.heap.size) HP hb0 (by omega))
 have hs0:=hb0.size
 have HB0:=Lib.hid hb0
 have HQ0:=Lib.hid (pathAt_req (r:=w.heap.size) HQ hb0 (by omega))
 clear HQ
 obtain ⟨⟨f',tl,wy⟩,hres⟩:∃ r,callV f 5 ⟨p,q,⟨#[]⟩⟩=r:=⟨_,rfl⟩
 have HRES:=Lib.hid hres
 rw [hres]
 clear hres hfs HP hb0
 go_enter Tryz.func27,Tryz.ntmps27
 go_wp2_with fail
 generalize (w.alloc (.cells #[.slice Ap p.length cp,.slice Aq q.length cq,.string ⟨#[]⟩,.int .u8 0,.int .i64 0] 97))=W0 at *
 have hc:=call_fs 5 (by omega) (by omega) W0 g w.heap.size O tb f ⟨p,q,⟨#[]⟩⟩ Ap cp Aq cq HF0.out HR0.out (by omega) (fun h=>by have:=hlts _ h;omega) hgO hbt HP0.out hcp hpB HQ0.out hcq hqB (by show (0:Nat)≤_;omega) htl
 rw [HRES.out] at hc
 refine (show Calls Tryz.prog 46 #[.pointer (some ⟨g,0,none⟩),.int .u8 5,.pointer (some ⟨w.heap.size,0,none⟩)] W0 _ from hc).mono ?_
 clear hc
 rintro e w1 ⟨rfl,⟨tb',htb,hfs1⟩,hr1,ho1⟩
 unfold reqCells at hr1
 have HF1:=Lib.hid hfs1
 have HR1:=Lib.hid hr1
 have HO1:=Lib.hid ho1
 have HTB:=Lib.hid htb
 have hs1:=ho1.size
 clear hfs1 hr1 ho1 htb
 go_wp2_with fail
 go_ret
 exact ⟨rfl,fsPost_lift HFS.out HB0.out (fun k hk h=>by rcases h with h | h | h;(· exact .inl h);(· omega);(· exact .inr h)) HTB.out HF1.out HO1.out⟩
theorem calls_api (w:World) (g:Nat) (O:Nat→Prop) (tb:Option Nat) (f:FsV) (hfs:FsAt w g O tb f) :
  Calls Tryz.prog 13 #[.pointer (some ⟨g,0,none⟩)] w fun e w'=>e=.returned (.int .i64 f.trace.length)∧w'=w:=by
 obtain ⟨A,c,v,m,lo,hi,hbox,hle,hiv,hsep,htr,htb,hfl,hOm,hOlt⟩:=hfs
 unfold fsCells at hbox
 obtain ⟨AT,ct,rfl⟩:=Kd.R_slice htr
 have HB:=Lib.hid hbox
 clear hbox hiv hsep htr htb hfl hOm hOlt
 go_enter Tryz.func13,Tryz.ntmps13
 have l1:=cell_of (j:=4) HB.out rfl
 go_wp2_with fail
 go_ret
 exact ⟨rfl,rfl⟩
end Go.Proofs.YthlcjjhfkldmhaaGreatDoor.G
end
end
