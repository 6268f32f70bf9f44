import Derived.Test.YthlcjjhfkldmhaaGreatDoorKit
import Derived.Test.YthlcjjhfkldmhaaGreatDoorSq
import Derived.Test.YthlcjjhfkldmhaaGreatDoorVRDoD
import Derived.Test.YthlcjjhfkldmhaaGreatDoorVFrame
import Derived.Test.YthlcjjhfkldmhaaGreatDoorVWalk
set_option linter.unusedVariables false
set_option linter.unusedSimpArgs false
section
namespace Go.Proofs.YthlcjjhfkldmhaaGreatDoor.G
open Go.RowKit Go.Lib Go.Proofs.YthlcjjhfkldmhaaGreatDoorW.PrintWords Go.Proofs.YthlcjjhfkldmhaaGreatDoorW.PrintLast
set_option linter.unusedVariables false
set_option linter.unusedSimpArgs false
set_option maxHeartbeats 8000000 in
set_option maxRecDepth 100000 in
theorem rDo5_calls (t:File) (A:Option Addr) (c:Nat) (l:List Int) (Al:Option Addr) (cl:Nat) (tr:List Call) (At:Option Addr) (ct:Nat) (x:Step) (hx:oneOf x=true) (hk5:x.kind=5) (A1 B1:Option Addr) (c1 d1:Nat) (w:World) (ht:FileK.C w A t.files.length t.files) (hc:t.files.length≤c) (hbt:t.bulk≤100000000) (hr:rightT t=true) (hl:Kd.C (Kd.int .i64) w Al l.length l) (hcl:l.length≤cl) (hll:l.length≤1099511627776) (htr:CallK.C w At tr.length tr) (hct:tr.length≤ct) (htl:tr.length≤900000) (hsh:shortT tr) (hp:Kd.C Kd.string w A1 x.path.length x.path) (hcp1:x.path.length≤c1) (hps:P.sumP x.path≤50000000) (hq:Kd.C Kd.string w B1 x.dest.length x.dest) (hdq1:x.dest.length≤d1) (hqs:P.sumP x.dest≤50000000) (hxd:x.data.size≤100000000) :
  Calls Tryz.prog 10 #[.agg #[.string t.name,.int .u8 t.kind,.string t.data,.slice A t.files.length c,.slice Al l.length cl,.slice At tr.length ct],.agg #[.int .u8 x.kind,.slice A1 x.path.length c1,.slice B1 x.dest.length d1,.string x.data]] w fun e w'=>∃ A' c' At' ct',e=.returned (.tuple #[.agg #[.string (doV ⟨t,tr,l⟩ x).1.tree.name,.int .u8 (doV ⟨t,tr,l⟩ x).1.tree.kind,.string (doV ⟨t,tr,l⟩ x).1.tree.data,.slice A' (doV ⟨t,tr,l⟩ x).1.tree.files.length c',.slice Al l.length cl,.slice At' (doV ⟨t,tr,l⟩ x).1.trace.length ct'],.agg #[.int .u8 (doV ⟨t,tr,l⟩ x).2.1.kind,.int .i64 (doV ⟨t,tr,l⟩ x).2.1.size,.string (doV ⟨t,tr,l⟩ x).2.1.data],.int .i64 (doV ⟨t,tr,l⟩ x).2.2])∧(doV ⟨t,tr,l⟩ x).1.tree.files.length≤c'∧(doV ⟨t,tr,l⟩ x).1.trace.length≤ct'∧(∀ W':World,FileK.C W' A t.files.length t.files→CallK.C W' At tr.length tr→(∀ k,w.heap.size≤k→k<w'.heap.size→W'.heap[k]? = w'.heap[k]?)→FileK.C W' A' (doV ⟨t,tr,l⟩ x).1.tree.files.length (doV ⟨t,tr,l⟩ x).1.tree.files∧CallK.C W' At' (doV ⟨t,tr,l⟩ x).1.trace.length (doV ⟨t,tr,l⟩ x).1.trace)∧Below w.heap.size w w':=by
 have h4:=four_all w (.cells #[.string t.name,.int .u8 t.kind,.string t.data,.slice A t.files.length c,.slice Al l.length cl,.slice At tr.length ct] 36) (.cells #[.int .u8 x.kind,.slice A1 x.path.length c1,.slice B1 x.dest.length d1,.string x.data] 42) (.cells #[.string ⟨#[]⟩,.int .u8 0,.string ⟨#[]⟩,.slice none 0 0,.slice none 0 0,.slice none 0 0] 36) (.cells #[.int .u8 0,.int .i64 0,.string ⟨#[]⟩] 46)
 have I:=Lib.hid (Hd.base h4.2.2.2.2 (by first | exact Nat.le_refl _ | exact Below.size h4.2.2.2.2))
 replace I:=Lib.hid (Hd.and I.out (Hd.box (h4.1)))
 replace I:=Lib.hid (Hd.and I.out (Hd.box (h4.2.1)))
 replace I:=Lib.hid (Hd.and I.out (Hd.box (h4.2.2.1)))
 replace I:=Lib.hid (Hd.and I.out (Hd.box (h4.2.2.2.1)))
 replace I:=Lib.hid (Hd.and I.out (Hd.reads (Kd.C_below ht h4.2.2.2.2)))
 replace I:=Lib.hid (Hd.and I.out (Hd.reads (Kd.C_below hl h4.2.2.2.2)))
 replace I:=Lib.hid (Hd.and I.out (Hd.reads (Kd.C_below htr h4.2.2.2.2)))
 replace I:=Lib.hid (Hd.and I.out (Hd.reads (Kd.C_below hp h4.2.2.2.2)))
 replace I:=Lib.hid (Hd.and I.out (Hd.reads (Kd.C_below hq h4.2.2.2.2)))
 have hs4:w.heap.size+3<((((w.alloc (.cells #[.string t.name,.int .u8 t.kind,.string t.data,.slice A t.files.length c,.slice Al l.length cl,.slice At tr.length ct] 36)).alloc (.cells #[.int .u8 x.kind,.slice A1 x.path.length c1,.slice B1 x.dest.length d1,.string x.data] 42)).alloc (.cells #[.string ⟨#[]⟩,.int .u8 0,.string ⟨#[]⟩,.slice none 0 0,.slice none 0 0,.slice none 0 0] 36)).alloc (.cells #[.int .u8 0,.int .i64 0,.string ⟨#[]⟩] 46)).heap.size:=blk_lt h4.2.2.2.1
 have HT0:=Lib.hid (fun W (h:Below w.heap.size w W)=>(⟨Kd.C_below ht h,Kd.C_below htr h⟩:FileK.C W A t.files.length t.files∧CallK.C W At tr.length tr))
 have HL0:=Lib.hid (fun W (h:Below w.heap.size w W)=>(⟨Kd.C_below hl h,Kd.C_below hp h,Kd.C_below hq h⟩:Kd.C (Kd.int .i64) W Al l.length l∧Kd.C Kd.string W A1 x.path.length x.path∧Kd.C Kd.string W B1 x.dest.length x.dest))
 have HRT:=Lib.hid hr
 have HOX:=Lib.hid hx
 obtain ⟨⟨⟨ft,fr,ff⟩,fa,fw⟩,hres⟩:∃ r,doV ⟨t,tr,l⟩ x=r:=⟨_,rfl⟩
 rw [hres]
 simp only
 have HR:=Lib.hid hres
 have hpl:=P.sumP_len x.path
 have hql:=P.sumP_len x.dest
 have HK5:=Lib.hid hk5
 have hkb:(x.kind != 5)=false:=by rw [hk5];rfl
 have hkc:(x.kind == 5)=true:=by rw [hk5];rfl
 clear hres ht hl htr hp hq h4 hr hx hk5
 go_enter Tryz.func10,Tryz.ntmps10
 obtain ⟨lx0,lx1,lx2,lx3⟩:=c4A I.out.now.2.2.2.2.2.2.2.1
 go_wp2_with fail
 clear lx0 lx1 lx2 lx3
 generalize ((((w.alloc (.cells #[.string t.name,.int .u8 t.kind,.string t.data,.slice A t.files.length c,.slice Al l.length cl,.slice At tr.length ct] 36)).alloc (.cells #[.int .u8 x.kind,.slice A1 x.path.length c1,.slice B1 x.dest.length d1,.string x.data] 42)).alloc (.cells #[.string ⟨#[]⟩,.int .u8 0,.string ⟨#[]⟩,.slice none 0 0,.slice none 0 0,.slice none 0 0] 36)).alloc (.cells #[.int .u8 0,.int .i64 0,.string ⟨#[]⟩] 46))=W0 at *
 refine (P.rright_calls A1 c1 x.path W0 I.out.now.2.1 hcp1 (by omega) (by omega)).mono ?_
 rintro e w1 ⟨rfl,hw1⟩
 obtain rfl:w1=W0:=hw1
 obtain ⟨b1,hb1⟩:∃ b,P.rightB x.path=b:=⟨_,rfl⟩
 have HB1:=Lib.hid hb1
 rw [hb1]
 clear hb1
 obtain ⟨lx0,lx1,lx2,lx3⟩:=c4A I.out.now.2.2.2.2.2.2.2.1
 go_wp2_with fail
 clear lx0 lx1 lx2 lx3
 refine (P.rright_calls B1 d1 x.dest w1 I.out.now.1 hdq1 (by omega) (by omega)).mono ?_
 rintro e w2 ⟨rfl,hw2⟩
 obtain rfl:w2=w1:=hw2
 obtain ⟨b2,hb2⟩:∃ b,P.rightB x.dest=b:=⟨_,rfl⟩
 have HB2:=Lib.hid hb2
 rw [hb2]
 clear hb2
 cases b1
 ·skip
  have HE:Hid ((⟨t,tr,l⟩,told0 ⟨#[]⟩,20)=((⟨ft,fr,ff⟩,fa,fw):FsV×Told×Int)):=Lib.hid ((doV_unfit HOX.out (fun h=>by have:=HB1.out;rw [h.1] at this;cases this)).symm.trans HR.out)
  injection HE.out with he1 he2
  injection he1 with he3 he4 he5
  injection he2 with he6 he7
  subst he3 he4 he5 he6 he7
  clear HE
  obtain ⟨lf0,lf1,lf2,lf3,lf4,lf5⟩:=c6A I.out.now.2.2.2.2.2.2.2.2.1
  obtain ⟨lx0,lx1,lx2,lx3⟩:=c4A I.out.now.2.2.2.2.2.2.2.1
  have HZ:w2.heap[w.heap.size+2]? = some (.cells #[.string ⟨#[]⟩,.int .u8 0,.string ⟨#[]⟩,.slice none 0 0,.slice none 0 0,.slice none 0 0] 36 (0,0)):=I.out.now.2.2.2.2.2.2.1
  have HA:w2.heap[w.heap.size+3]? = some (.cells #[.int .u8 0,.int .i64 0,.string ⟨#[]⟩] 46 (0,0)):=I.out.now.2.2.2.2.2.1
  have HST:=Lib.hid (store9 HZ HA (by omega) (.string t.name) (.int .u8 t.kind) (.string t.data) (.slice A t.files.length c) (.slice Al l.length cl) (.slice At tr.length ct) (.int .u8 0) (.int .i64 0) (.string ⟨#[]⟩))
  have HBV:=Lib.hid (I.out.now.2.2.2.2.2.2.2.2.2.trans (HST.out.2.2.below (B:=w.heap.size) (by have:=Below.size I.out.now.2.2.2.2.2.2.2.2.2;omega) (fun k hk e=>by omega)))
  obtain ⟨z0,z1,z2,z3,z4,z5⟩:=c6A HZ
  obtain ⟨u0,u1,u2,u3,u4,u5⟩:=u6A HZ
  obtain ⟨y0,y1,y2⟩:=c3A HA
  obtain ⟨n0,n1,n2⟩:=u3A HA
  go_wp2_with fail
  refine bodyPost_ret (results_cct rfl _ _ (w.heap.size+2) (w.heap.size+3) 36 46 #[.string t.name,.int .u8 t.kind,.string t.data,.slice A t.files.length c,.slice Al l.length cl,.slice At tr.length ct] #[.int .u8 0,.int .i64 0,.string ⟨#[]⟩] (0,0) (0,0) _ _ rfl HST.out.1 Tryz.underlying36 rfl (by kernel_rfl) rfl HST.out.2.1 Tryz.underlying46 rfl (by kernel_rfl)) rfl ?_
  exact ⟨A,c,At,ct,rfl,hc,hct,fun _ h1 h2 _=>⟨h1,h2⟩,HBV.out⟩
 cases b2
 ·skip
  have HE:Hid ((⟨t,tr,l⟩,told0 ⟨#[]⟩,20)=((⟨ft,fr,ff⟩,fa,fw):FsV×Told×Int)):=Lib.hid ((doV_unfit HOX.out (fun h=>by have:=HB2.out;rw [h.2 HK5.out] at this;cases this)).symm.trans HR.out)
  injection HE.out with he1 he2
  injection he1 with he3 he4 he5
  injection he2 with he6 he7
  subst he3 he4 he5 he6 he7
  clear HE
  obtain ⟨lf0,lf1,lf2,lf3,lf4,lf5⟩:=c6A I.out.now.2.2.2.2.2.2.2.2.1
  obtain ⟨lx0,lx1,lx2,lx3⟩:=c4A I.out.now.2.2.2.2.2.2.2.1
  have HZ:w2.heap[w.heap.size+2]? = some (.cells #[.string ⟨#[]⟩,.int .u8 0,.string ⟨#[]⟩,.slice none 0 0,.slice none 0 0,.slice none 0 0] 36 (0,0)):=I.out.now.2.2.2.2.2.2.1
  have HA:w2.heap[w.heap.size+3]? = some (.cells #[.int .u8 0,.int .i64 0,.string ⟨#[]⟩] 46 (0,0)):=I.out.now.2.2.2.2.2.1
  have HST:=Lib.hid (store9 HZ HA (by omega) (.string t.name) (.int .u8 t.kind) (.string t.data) (.slice A t.files.length c) (.slice Al l.length cl) (.slice At tr.length ct) (.int .u8 0) (.int .i64 0) (.string ⟨#[]⟩))
  have HBV:=Lib.hid (I.out.now.2.2.2.2.2.2.2.2.2.trans (HST.out.2.2.below (B:=w.heap.size) (by have:=Below.size I.out.now.2.2.2.2.2.2.2.2.2;omega) (fun k hk e=>by omega)))
  obtain ⟨z0,z1,z2,z3,z4,z5⟩:=c6A HZ
  obtain ⟨u0,u1,u2,u3,u4,u5⟩:=u6A HZ
  obtain ⟨y0,y1,y2⟩:=c3A HA
  obtain ⟨n0,n1,n2⟩:=u3A HA
  go_wp2_with fail
  refine bodyPost_ret (results_cct rfl _ _ (w.heap.size+2) (w.heap.size+3) 36 46 #[.string t.name,.int .u8 t.kind,.string t.data,.slice A t.files.length c,.slice Al l.length cl,.slice At tr.length ct] #[.int .u8 0,.int .i64 0,.string ⟨#[]⟩] (0,0) (0,0) _ _ rfl HST.out.1 Tryz.underlying36 rfl (by kernel_rfl) rfl HST.out.2.1 Tryz.underlying46 rfl (by kernel_rfl)) rfl ?_
  exact ⟨A,c,At,ct,rfl,hc,hct,fun _ h1 h2 _=>⟨h1,h2⟩,HBV.out⟩
 have HFIT:=Lib.hid (show fitR x from ⟨HB1.out,fun _=>HB2.out⟩)
 obtain ⟨lx0,lx1,lx2,lx3⟩:=c4A I.out.now.2.2.2.2.2.2.2.1
 go_wp2_with fail
 clear lx0 lx1 lx2 lx3
 refine start_ (n:=8) (S:=fun w'=>w'.heap[w.heap.size+1]? = some (.cells #[.int .u8 x.kind,.slice A1 x.path.length c1,.slice B1 x.dest.length d1,.string x.data] 42 (0,0))) (ds:=[7]) (bmE 8 0) (by kernel_rfl) rfl rfl (I.out _ (bdrew (Below.refl w2.heap.size w2))).2.2.2.2.2.2.2.1 (fun hHeld => ?_)
 refine pA 0 31 (bmE 8 1) ?_
 refine pA 2 33 (bmE 8 5) ?_
 refine tA 1 32 (bmE 8 7) hHeld ?_ (hy:=by
  rintro w' s0
  have q0:=cell_of (j:=0) s0 rfl
  go_simp
  with_reducible rfl)
 refine tA 3 34 (bmE 8 15) hHeld ?_ (hy:=by
  rintro w' s0
  have q1:=cell_of (j:=1) s0 rfl
  go_simp
  with_reducible rfl)
 refine join_ (σ:=(Option Addr×Nat)×Nat) 1 (bmE 8 127) (fun s=>match s with | ((A4,c4),g6)=>[(35,.slice A4 x.path.length c4),(36,.agg #[.int .u8 x.kind,.slice A4 x.path.length c4,.slice none 0 0,.int .i64 42]),(9,.pointer (some ⟨g6,0,none⟩))]) (fun s W=>match s with | ((A4,c4),g6)=>Below w2.heap.size w2 W∧w2.heap.size≤g6∧W.heap[g6]? = some (.cells #[.int .u8 0,.slice none 0 0,.slice none 0 0,.int .i64 0] 79 (0,0))∧x.path.length≤c4∧Kd.R Kd.string 9 W w2.heap.size (fun _=>True) (.slice A4 x.path.length c4) x.path) ?_ ?_
 rotate_left
 ·intro hc0
  refine join_ (σ:=(Option Addr×Nat)) 2 (bmE 8 63) (fun s=>match s with | (A4,c4)=>[(35,.slice A4 x.path.length c4),(36,.agg #[.int .u8 x.kind,.slice A4 x.path.length c4,.slice none 0 0,.int .i64 42])]) (fun s W=>match s with | (A4,c4)=>Below w2.heap.size w2 W∧x.path.length≤c4∧Kd.R Kd.string 9 W w2.heap.size (fun _=>True) (.slice A4 x.path.length c4) x.path) ?_ ?_
  ·rintro ⟨A4,c4⟩ V hF
   obtain ⟨hb,hc4,hr4⟩:=hF
   refine uA ?_
   refine eA 6 9 (bmE 8 127) (fun K hK => ?_)
   have ha:=below_alloc (Below.refl V.heap.size V) (.cells #[.int .u8 0,.slice none 0 0,.slice none 0 0,.int .i64 0] 79)
   have hbn:=below_alloc hb (.cells #[.int .u8 0,.slice none 0 0,.slice none 0 0,.int .i64 0] 79)
   refine vA ?_
   refine hK.out _ _ ((I.out _ hbn).2.2.2.2.2.2.2.1) (fun hHeld => ?_)
   refine nA 9 ?_
   refine jA (hc0 ((A4,c4),V.heap.size) _ (⟨hbn,hb.size,blk_new V (.cells #[.int .u8 0,.slice none 0 0,.slice none 0 0,.int .i64 0] 79),hc4,Kd.R_below hr4 ha⟩))
  intro hc1
  refine join_ (σ:=Nat) 3 (bmE 8 79) (fun s=>match s with | g6=>[(9,.pointer (some ⟨g6,0,none⟩))]) (fun s W=>match s with | g6=>Below w2.heap.size w2 W∧w2.heap.size≤g6∧W.heap[g6]? = some (.cells #[.int .u8 0,.slice none 0 0,.slice none 0 0,.int .i64 0] 79 (0,0))) ?_ ?_
  ·rintro g6 V hF
   obtain ⟨hb,hl6,hz6⟩:=hF
   refine uA ?_
   refine eA 4 35 (bmE 8 95) (fun K hK => ?_)
   refine gA Tryz.func29 #[.slice A1 x.path.length c1] ?_
   refine (rcopyP A1 c1 x.path _ (I.out _ hb).2.1 hcp1 (by omega)).mono ?_
   rintro e w5 ⟨A4,c4,rfl,hc4,hR,hq5⟩
   refine ⟨_,rfl,?_⟩
   have hbn:=hb.trans (hq5.mono hb.size)
   refine hK.out _ _ ((I.out _ hbn).2.2.2.2.2.2.2.1) (fun hHeld => ?_)
   refine nA 35 ?_
   refine pA 5 36 (bmE 8 127) ?_
   refine jA (hc0 ((A4,c4),g6) _ (⟨hbn,hl6,(hq5.block _ (blk_lt hz6)).trans hz6,hc4,Kd.R_lower hR hb.size⟩))
  intro hc2
  have hb:Below w2.heap.size w2 w2.drew:=bdrew (Below.refl _ _)
  generalize hVV:w2.drew=V at *
  refine two_ (i:=4) (j:=6) (Ni:=some 35) (Nj:=some 9) (bmE 8 31) (bmE 8 79) rfl rfl rfl rfl (by kernel_rfl) (by decide) (by decide) (fun K hK => ?_) (fun K hK => ?_)
  ·refine gA Tryz.func29 #[.slice A1 x.path.length c1] ?_
   refine (rcopyP A1 c1 x.path _ (I.out _ hb).2.1 hcp1 (by omega)).mono ?_
   rintro e w5 ⟨A4,c4,rfl,hc4,hR,hq5⟩
   refine ⟨_,rfl,?_⟩
   have hbn:=hb.trans (hq5.mono hb.size)
   refine hK.out _ _ ((I.out _ hbn).2.2.2.2.2.2.2.1) (fun hHeld => ?_)
   refine nA 35 ?_
   refine pA 5 36 (bmE 8 63) ?_
   refine jA (hc1 (A4,c4) _ (⟨hbn,hc4,Kd.R_lower hR hb.size⟩))
  ·have ha:=below_alloc (Below.refl V.heap.size V) (.cells #[.int .u8 0,.slice none 0 0,.slice none 0 0,.int .i64 0] 79)
   have hbn:=below_alloc hb (.cells #[.int .u8 0,.slice none 0 0,.slice none 0 0,.int .i64 0] 79)
   refine vA ?_
   refine hK.out _ _ ((I.out _ hbn).2.2.2.2.2.2.2.1) (fun hHeld => ?_)
   refine nA 9 ?_
   refine jA (hc2 V.heap.size _ (⟨hbn,hb.size,blk_new V (.cells #[.int .u8 0,.slice none 0 0,.slice none 0 0,.int .i64 0] 79)⟩))
 ·rintro ⟨⟨A4,c4⟩,g6⟩ V hF
  obtain ⟨hb,hl6,hz6,hc4,hr4⟩:=hF
  refine uA ?_
  have HC6:=Lib.hid (store4_box hz6 (.int .u8 x.kind) (.slice A4 x.path.length c4) (.slice none 0 0) (.int .i64 42))
  obtain ⟨z0,z1,z2,z3⟩:=c4A hz6
  obtain ⟨u0,u1,u2,u3⟩:=u4A hz6
  refine last_ (i:=7) (N:=none) (bmE 8 255) rfl rfl (by kernel_rfl) (by decide) (fun K hK => ?_)
  refine sA ?_
  refine hK.out _ _ ?_
  refine done_ (by kernel_rfl) ?_
  have hbc:=store4_below hb hl6 (.int .u8 x.kind) (.slice A4 x.path.length c4) (.slice none 0 0) (.int .i64 42)
  have htq:∀ q,q∈9 :: (Kd.string).E→q≠79:=fun q hq=>by
   rcases List.mem_cons.1 hq with rfl | hq
   ·decide
   ·cases hq
  have b1:=set_block hz6 0 (.int .u8 x.kind)
  have b2:=set_block b1 1 (.slice A4 x.path.length c4)
  have b3:=set_block b2 2 (.slice none 0 0)
  have HR9:=Lib.hid (Kd.R_set (Kd.R_set (Kd.R_set (Kd.R_set hr4 hz6 htq 0 (.int .u8 x.kind)) b1 htq 1 (.slice A4 x.path.length c4)) b2 htq 2 (.slice none 0 0)) b3 htq 3 (.int .i64 42))
  clear hb hz6 hr4 b1 b2 b3 z0 z1 z2 z3 u0 u1 u2 u3 hHeld
  replace I:=Lib.hid (Hd.mv I.out hbc)
  replace I:=Lib.hid (Hd.and I.out (Hd.box (HC6.out)))
  replace I:=Lib.hid (Hd.and I.out (Hd.rows (show Kd.R Kd.string 9 ((((V.setCell ⟨g6,0,none⟩ (.int .u8 x.kind)).setCell ⟨g6,1,none⟩ (.slice A4 x.path.length c4)).setCell ⟨g6,2,none⟩ (.slice none 0 0)).setCell ⟨g6,3,none⟩ (.int .i64 42)) w2.heap.size (fun k=>w2.heap.size≤k∧k<((((V.setCell ⟨g6,0,none⟩ (.int .u8 x.kind)).setCell ⟨g6,1,none⟩ (.slice A4 x.path.length c4)).setCell ⟨g6,2,none⟩ (.slice none 0 0)).setCell ⟨g6,3,none⟩ (.int .i64 42)).heap.size∧k≠g6) (.slice A4 x.path.length c4) x.path from Kd.R_mono (Kd.R_bound HR9.out) (fun k hk=>⟨hk.2.1,hk.2.2.1,fun e=>by obtain ⟨q,hq,cells,hc⟩:=hk.2.2.2;rw [e,HC6.out] at hc;injection hc with hc;injection hc with _ hc;exact htq q hq hc.symm⟩))))
  have hg6:=blk_lt HC6.out
  clear HC6 HR9 hbc
  generalize ((((V.setCell ⟨g6,0,none⟩ (.int .u8 x.kind)).setCell ⟨g6,1,none⟩ (.slice A4 x.path.length c4)).setCell ⟨g6,2,none⟩ (.slice none 0 0)).setCell ⟨g6,3,none⟩ (.int .i64 42))=W8 at *
  have hbW9:=I.out.now.2.2.2.2.2.2.2.2.2.2.2
  have hws:w.heap.size+3<w2.heap.size:=hs4
  have hwb8:=I.out.now.2.2.2.2.2.2.2.2.2.2.2
  obtain ⟨lx0,lx1,lx2,lx3⟩:=c4A I.out.now.2.2.2.2.2.2.2.2.2.1
  obtain ⟨lc0,lc1,lc2,lc3⟩:=c4A I.out.now.2.1
  go_wp2_with fail
  clear lx0 lx1 lx2 lx3
  clear lc0 lc1 lc2 lc3
  refine (rcopyP B1 d1 x.dest W8 I.out.now.2.2.1 hdq1 (by omega)).mono ?_
  rintro e w11 ⟨A5,c5,rfl,hc5,hR5,hq11⟩
  replace I:=Lib.hid (Hd.mv I.out hq11)
  have hs11:=hq11.size
  have hC0:=I.out.now.2.1
  have z2:=cell_of (j:=2) hC0 rfl
  have u2:=unfr hC0 2
  have hO9:=Lib.hid (Only.setCell w11 ⟨g6,2,none⟩ (.slice A5 x.dest.length c5))
  have hC9:=set_block hC0 2 (.slice A5 x.dest.length c5)
  have hsz9:=hO9.out.size
  have hF9:=(hO9.out.block w.heap.size (by omega) (by simp only;omega)).trans I.out.now.2.2.2.2.2.2.2.2.2.2.1
  have hX9:=(hO9.out.block (w.heap.size+1) (by omega) (by simp only;omega)).trans I.out.now.2.2.2.2.2.2.2.2.2.1
  have hR9:=(hO9.out.block (w.heap.size+2) (by omega) (by simp only;omega)).trans I.out.now.2.2.2.2.2.2.2.2.1
  have hA9:=(hO9.out.block (w.heap.size+3) (by omega) (by simp only;omega)).trans I.out.now.2.2.2.2.2.2.2.1
  have hb9:=I.out.now.2.2.2.2.2.2.2.2.2.2.2.trans (hO9.out.below (B:=w.heap.size) (by omega) (fun k hk e=>by simp only at e;omega))
  have hsz9':(w11.setCell ⟨g6,2,none⟩ (.slice A5 x.dest.length c5)).heap.size≤w11.heap.size:=by simp [World.setCell]
  have hCP9:=Kd.R_mono (Kd.R_step (w1:=w11.setCell ⟨g6,2,none⟩ (.slice A5 x.dest.length c5)) I.out.now.1 (fun k hk hl=>hO9.out.block k hl hk.2.2)) (ok':=fun k=>w2.heap.size≤k∧k<(w11.setCell ⟨g6,2,none⟩ (.slice A5 x.dest.length c5)).heap.size∧k≠g6) (fun k hk=>⟨hk.1,by have:=hk.2.1;omega,hk.2.2⟩)
  have hCQ9:=Kd.R_mono (Kd.R_step (w1:=w11.setCell ⟨g6,2,none⟩ (.slice A5 x.dest.length c5)) (Kd.R_bound hR5) (fun k hk hl=>hO9.out.block k hl (by have:=hk.2.1;simp only;omega))) (ok':=fun k=>W8.heap.size≤k∧k<(w11.setCell ⟨g6,2,none⟩ (.slice A5 x.dest.length c5)).heap.size∧k≠g6) (fun k hk=>⟨hk.2.1,by have:=hk.2.2.1;omega,by have:=hk.2.1;omega⟩)
  have hws8:w.heap.size+3<W8.heap.size:=by omega
  clear hO9 hR5 hC0 hsz9' I
  obtain ⟨W9,hWW9⟩:∃ W,w11.setCell ⟨g6,2,none⟩ (.slice A5 x.dest.length c5)=W:=⟨_,rfl⟩
  rw [hWW9] at hC9 hsz9 hF9 hX9 hR9 hA9 hb9 hCP9 hCQ9
  have hg69:g6<W9.heap.size:=by omega
  have I:=Lib.hid (Hd.base hb9 (by first | exact Nat.le_refl _ | exact Below.size hb9))
  replace I:=Lib.hid (Hd.and I.out (Hd.box (hC9)))
  replace I:=Lib.hid (Hd.and I.out (Hd.box (hF9)))
  replace I:=Lib.hid (Hd.and I.out (Hd.box (hX9)))
  replace I:=Lib.hid (Hd.and I.out (Hd.box (hR9)))
  replace I:=Lib.hid (Hd.and I.out (Hd.box (hA9)))
  replace I:=Lib.hid (Hd.and I.out (Hd.reads ((HT0.out _ hb9).1)))
  replace I:=Lib.hid (Hd.and I.out (Hd.reads ((HT0.out _ hb9).2)))
  replace I:=Lib.hid (Hd.and I.out (Hd.reads ((HL0.out _ hb9).1)))
  replace I:=Lib.hid (Hd.and I.out (Hd.reads ((HL0.out _ hb9).2.1)))
  replace I:=Lib.hid (Hd.and I.out (Hd.reads ((HL0.out _ hb9).2.2)))
  replace I:=Lib.hid (Hd.and I.out (Hd.rows hCP9))
  replace I:=Lib.hid (Hd.and I.out (Hd.rows hCQ9))
  clear hC9 hF9 hX9 hR9 hA9 hCP9 hCQ9 hb9
  obtain ⟨lf0,lf1,lf2,lf3,lf4,lf5⟩:=c6A I.out.now.2.2.2.2.2.2.2.2.2.2.1
  obtain ⟨lx0,lx1,lx2,lx3⟩:=c4A I.out.now.2.2.2.2.2.2.2.2.2.1
  clear hbW9
  have ha12:=below_alloc (Below.refl W9.heap.size W9) (.cells #[.string t.name,.int .u8 t.kind,.string t.data,.slice A t.files.length c,.slice Al l.length cl,.slice At tr.length ct] 36)
  replace I:=Lib.hid (Hd.mv I.out ha12)
  replace I:=Lib.hid (Hd.and I.out (Hd.box (blk_new W9 (.cells #[.string t.name,.int .u8 t.kind,.string t.data,.slice A t.files.length c,.slice Al l.length cl,.slice At tr.length ct] 36))))
  obtain ⟨W10,hWW10⟩:∃ W,(W9.alloc (.cells #[.string t.name,.int .u8 t.kind,.string t.data,.slice A t.files.length c,.slice Al l.length cl,.slice At tr.length ct] 36))=W:=⟨_,rfl⟩
  rw [hWW10] at I
  have hgo:=blk_lt I.out.now.1
  have ha13:=below_alloc (Below.refl W10.heap.size W10) (.cells #[.int .u8 0,.int .i64 0,.string ⟨#[]⟩] 46)
  replace I:=Lib.hid (Hd.mv I.out ha13)
  replace I:=Lib.hid (Hd.and I.out (Hd.box (blk_new W10 (.cells #[.int .u8 0,.int .i64 0,.string ⟨#[]⟩] 46))))
  have hgb:=blk_lt I.out.now.1
  obtain ⟨mf0,mf1,mf2,mf3,mf4,mf5⟩:=c6A I.out.now.2.2.2.2.2.2.2.2.2.2.2.2.1
  go_wp2_with fail
  clear lf0 lf1 lf2 lf3 lf4 lf5
  clear lx0 lx1 lx2 lx3
  clear mf0 mf1 mf2 mf3 mf4 mf5
  generalize (W10.alloc (.cells #[.int .u8 0,.int .i64 0,.string ⟨#[]⟩] 46))=W11 at *
  refine (has_calls Al cl l tr.length W11 I.out.now.2.2.2.2.2.2.1 hcl (by omega)).mono ?_
  rintro e w12 ⟨rfl,hw12⟩
  obtain rfl:w12=W11:=hw12
  obtain ⟨b3,hb3⟩:∃ b,decide ((tr.length:Int)∈l)=b:=⟨_,rfl⟩
  have HB3:=Lib.hid hb3
  rw [hb3]
  clear hb3
  have hlh:=hll
  cases b3
  rotate_left
  ·skip
   have HE:=(doV_fault (f:=⟨t,tr,l⟩) HOX.out HFIT.out (of_decide_eq_true HB3.out)).symm.trans HR.out
   rw [if_pos HK5.out] at HE
   injection HE with he1 he2
   injection he1 with he3 he4 he5
   injection he2 with he6 he7
   subst he3 he5 he6 he7
   have HTR2:=Lib.hid he4
   have HUF:Hid (∀ W':World,FileK.C W' A t.files.length t.files→(∀ k,w12.heap.size≤k→k<w12.heap.size→W'.heap[k]? = w12.heap[k]?)→FileK.C W' A t.files.length t.files):=Lib.hid (fun _ h _=>h)
   clear he4
   obtain ⟨lf0,lf1,lf2,lf3,lf4,lf5⟩:=c6A I.out.now.2.2.2.2.2.2.2.2.2.2.2.2.1
   obtain ⟨lc0,lc1,lc2,lc3⟩:=c4A I.out.now.2.2.2.2.2.2.2.2.2.2.2.2.2.1
   obtain ⟨lb0,lb1,lb2⟩:=c3A I.out.now.1
   go_wp2_with fail
   have hWW:W9.heap.size<w12.heap.size∧W10.heap.size<w12.heap.size:=⟨by omega,by omega⟩
   refine start_ (n:=8) (S:=fun w'=>w'.heap[w.heap.size]? = some (.cells #[.string t.name,.int .u8 t.kind,.string t.data,.slice A t.files.length c,.slice Al l.length cl,.slice At tr.length ct] 36 (0,0))∧w'.heap[g6]? = some (.cells #[.int .u8 x.kind,.slice A4 x.path.length c4,.slice A5 x.dest.length c5,.int .i64 42] 79 (0,0))) (ds:=[7]) (bmE 8 0) (by kernel_rfl) rfl rfl ⟨(I.out _ (bdrew (Below.refl w12.heap.size w12))).2.2.2.2.2.2.2.2.2.2.2.2.1,(I.out _ (bdrew (Below.refl w12.heap.size w12))).2.2.2.2.2.2.2.2.2.2.2.2.2.1⟩ (fun hHeld => ?_)
   refine pA 0 63 (bmE 8 1) ?_
   refine tA 1 64 (bmE 8 3) hHeld ?_ (hy:=by
    rintro w' ⟨s0,s1⟩
    have q5:=cell_of (j:=5) s0 rfl
    go_simp
    with_reducible rfl)
   refine tA 3 66 (bmE 8 11) hHeld ?_ (hy:=by
    rintro w' ⟨s0,s1⟩
    have q0:=cell_of (j:=0) s1 rfl
    have q1:=cell_of (j:=1) s1 rfl
    have q2:=cell_of (j:=2) s1 rfl
    have q3:=cell_of (j:=3) s1 rfl
    go_simp
    with_reducible rfl)
   refine join_ (σ:=(Option Addr×Nat)×Nat) 3 (bmE 8 31) (fun s=>match s with | ((A7,c7),g4)=>[(65,.slice A7 tr.length c7),(67,.slice (some ⟨g4,0,none⟩) 1 1)]) (fun s W=>match s with | ((A7,c7),g4)=>Below w12.heap.size w12 W∧w12.heap.size≤g4∧W.heap[g4]? = some (.cells #[.int .u8 x.kind,.slice A4 x.path.length c4,.slice A5 x.dest.length c5,.int .i64 42] 79 (0,0))∧CallK.R 79 W w12.heap.size (fun _=>True) (.slice A7 tr.length c7) tr∧(∀ k,(Value.slice A7 tr.length c7).ownBlock=some k→k≠g4)) ?_ ?_
   rotate_left
   ·intro hc0
    refine join_ (σ:=(Option Addr×Nat)) 4 (bmE 8 15) (fun s=>match s with | (A7,c7)=>[(65,.slice A7 tr.length c7)]) (fun s W=>match s with | (A7,c7)=>Below w12.heap.size w12 W∧CallK.R 79 W w12.heap.size (fun _=>True) (.slice A7 tr.length c7) tr) ?_ ?_
    ·rintro ⟨A7,c7⟩ V hF
     obtain ⟨hb,hr7⟩:=hF
     refine uA ?_
     refine eA 4 67 (bmE 8 31) (fun K hK => ?_)
     have ha:=below_alloc (Below.refl V.heap.size V) (.cells #[.int .u8 x.kind,.slice A4 x.path.length c4,.slice A5 x.dest.length c5,.int .i64 42] 79)
     have hbn:=below_alloc hb (.cells #[.int .u8 x.kind,.slice A4 x.path.length c4,.slice A5 x.dest.length c5,.int .i64 42] 79)
     refine vA ?_
     refine hK.out _ _ (⟨(I.out _ hbn).2.2.2.2.2.2.2.2.2.2.2.2.1,(I.out _ hbn).2.2.2.2.2.2.2.2.2.2.2.2.2.1⟩) (fun hHeld => ?_)
     refine nA 67 ?_
     refine jA (hc0 ((A7,c7),V.heap.size) _ (⟨hbn,hb.size,blk_new V (.cells #[.int .u8 x.kind,.slice A4 x.path.length c4,.slice A5 x.dest.length c5,.int .i64 42] 79),Kd.R_below hr7 ha,fun k hk e=>by have:=Kd.R_lt hr7 k hk;omega⟩))
    intro hc1
    refine join_ (σ:=Nat) 4 (bmE 8 27) (fun s=>match s with | g4=>[(67,.slice (some ⟨g4,0,none⟩) 1 1)]) (fun s W=>match s with | g4=>Below w12.heap.size w12 W∧w12.heap.size≤g4∧W.heap[g4]? = some (.cells #[.int .u8 x.kind,.slice A4 x.path.length c4,.slice A5 x.dest.length c5,.int .i64 42] 79 (0,0))) ?_ ?_
    ·rintro g4 V hF
     obtain ⟨hb,hl4,hz4⟩:=hF
     refine uA ?_
     refine eA 2 65 (bmE 8 31) (fun K hK => ?_)
     refine gA Tryz.func32 #[.slice At tr.length ct] ?_
     refine (copiedP At ct tr _ (I.out _ hb).2.2.2.2.2.2.2.1 hct (by omega) (fun y hy=>⟨by have:=(hsh y hy).1;omega,by have:=(hsh y hy).2;omega⟩)).mono ?_
     rintro e w5 ⟨A7,c7,rfl,hR,hq5⟩
     refine ⟨_,rfl,?_⟩
     have hbn:=hb.trans (hq5.mono hb.size)
     refine hK.out _ _ (⟨(I.out _ hbn).2.2.2.2.2.2.2.2.2.2.2.2.1,(I.out _ hbn).2.2.2.2.2.2.2.2.2.2.2.2.2.1⟩) (fun hHeld => ?_)
     refine nA 65 ?_
     refine jA (hc0 ((A7,c7),g4) _ (⟨hbn,hl4,(hq5.block _ (blk_lt hz4)).trans hz4,Kd.R_lower hR hb.size,fun k hk e=>by have:=((Kd.R_bound hR).1 k hk).2.1;have:=blk_lt hz4;omega⟩))
    intro hc2
    have hb:Below w12.heap.size w12 w12.drew:=bdrew (Below.refl _ _)
    generalize hVV:w12.drew=V at *
    refine two_ (i:=2) (j:=4) (Ni:=some 65) (Nj:=some 67) (bmE 8 15) (bmE 8 27) rfl rfl rfl rfl (by kernel_rfl) (by decide) (by decide) (fun K hK => ?_) (fun K hK => ?_)
    ·refine gA Tryz.func32 #[.slice At tr.length ct] ?_
     refine (copiedP At ct tr _ (I.out _ hb).2.2.2.2.2.2.2.1 hct (by omega) (fun y hy=>⟨by have:=(hsh y hy).1;omega,by have:=(hsh y hy).2;omega⟩)).mono ?_
     rintro e w5 ⟨A7,c7,rfl,hR,hq5⟩
     refine ⟨_,rfl,?_⟩
     have hbn:=hb.trans (hq5.mono hb.size)
     refine hK.out _ _ (⟨(I.out _ hbn).2.2.2.2.2.2.2.2.2.2.2.2.1,(I.out _ hbn).2.2.2.2.2.2.2.2.2.2.2.2.2.1⟩) (fun hHeld => ?_)
     refine nA 65 ?_
     refine jA (hc1 (A7,c7) _ (⟨hbn,Kd.R_lower hR hb.size⟩))
    ·have ha:=below_alloc (Below.refl V.heap.size V) (.cells #[.int .u8 x.kind,.slice A4 x.path.length c4,.slice A5 x.dest.length c5,.int .i64 42] 79)
     have hbn:=below_alloc hb (.cells #[.int .u8 x.kind,.slice A4 x.path.length c4,.slice A5 x.dest.length c5,.int .i64 42] 79)
     refine vA ?_
     refine hK.out _ _ (⟨(I.out _ hbn).2.2.2.2.2.2.2.2.2.2.2.2.1,(I.out _ hbn).2.2.2.2.2.2.2.2.2.2.2.2.2.1⟩) (fun hHeld => ?_)
     refine nA 67 ?_
     refine jA (hc2 V.heap.size _ (⟨hbn,hb.size,blk_new V (.cells #[.int .u8 x.kind,.slice A4 x.path.length c4,.slice A5 x.dest.length c5,.int .i64 42] 79)⟩))
   ·rintro ⟨⟨A7,c7⟩,g4⟩ V hF
    obtain ⟨hb,hl4,hz4,hr7,hj⟩:=hF
    refine uA ?_
    refine eA 5 68 (bmE 8 63) (fun K hK => ?_)
    have hsV:=hb.size
    refine Kd.N_append_rows_step CallK (w0:=V) 0 (by rfl) (.tmp 65) (.tmp 67) 34 79 (.agg #[.int .u8 0,.slice none 0 0,.slice none 0 0,.int .i64 0]) 64 rfl Tryz.underlying34 info_call rfl (by decide) (by omega) (.slice A7 tr.length c7) tr [(⟨x.kind,x.path,x.dest,42⟩:Call)] (some ⟨g4,0,none⟩) 1 1 (fun k=>(w.heap.size+3<k∧k<W9.heap.size∧k≠g6)∨w12.heap.size≤k) (fun k=>k=g4∨(w.heap.size+3<k∧k<W9.heap.size∧k≠g6)) rfl rfl ?aO ?aR ?aK ?aF ?aB ?aS ?aL ?_
    case aO=>exact Kd.N_mono (Kd.R_N (Kd.R_lower (Kd.R_bound hr7) (Nat.zero_le _))) (fun k hk=>.inr hk.2.1)
    case aR =>
     have hCP:=(I.out _ hb).2.2.2.1
     have hCQ:=(I.out _ hb).2.2.1
     exact fun W' hW'=>callC_box ((hW' g4 (.inl rfl) (blk_lt hz4)).trans hz4) (CallK.K_of_M (call_mkM W' 0 (fun _=>True) (⟨x.kind,x.path,x.dest,42⟩:Call) (Kd.R_mono (Kd.R_lower (Kd.R_step hCP fun k hk hl=>hW' k (.inr ⟨by have:=hk.1;omega,hk.2.1,hk.2.2⟩) hl) (Nat.zero_le _)) (fun _ _=>trivial)) (Kd.R_mono (Kd.R_lower (Kd.R_step hCQ fun k hk hl=>hW' k (.inr ⟨by have:=hk.1;omega,hk.2.1,hk.2.2⟩) hl) (Nat.zero_le _)) (fun _ _=>trivial))))
    case aK =>
     rintro k (rfl | hk)
     ·exact ⟨.inr hl4,fun e=>hj _ e.symm rfl⟩
     ·exact ⟨.inl hk,fun e=>by have:=((Kd.R_bound hr7).1 k e.symm).2.1;omega⟩
    case aF=>exact fun k hk=>.inr (by omega)
    case aB=>exact Below.refl _ _
    case aS=>exact Nat.zero_le _
    case aL=>omega
    intro v6 w6 hN hB6 hgr6 hat6
    rw [HTR2.out] at hN
    obtain ⟨A6,c6,rfl⟩:=Kd.N_slice hN
    have hN6:=(Kd.N_reads' hN).2.1
    have HVB:Hid (∀ k,k<w12.heap.size→V.heap[k]? = w12.heap[k]?):=Lib.hid fun k hk=>hb.block k hk
    have HN:=Lib.hid hN
    have hs6:=hgr6.size
    have HK6:Hid (∀ k,k<w12.heap.size→w6.heap[k]? = V.heap[k]?):=Lib.hid fun k hk=>hgr6.block k (by omega) (fun e=>by have:=((Kd.R_bound hr7).1 k e.symm).2.1;omega)
    have HB6:Hid (Below w.heap.size V w6):=Lib.hid ((Only.grown_of hgr6).below (by omega) (fun k hk e=>by have:=((Kd.R_bound hr7).1 k e).2.1;omega))
    have hO6:=(HK6.out _ (by omega)).trans ((I.out _ hb).2.1)
    clear hN hB6 hgr6 hat6
    refine hK.out _ _ ⟨(HK6.out _ (by omega)).trans ((I.out _ hb).2.2.2.2.2.2.2.2.2.2.2.2.1),(HK6.out _ (by omega)).trans ((I.out _ hb).2.2.2.2.2.2.2.2.2.2.2.2.2.1)⟩ (fun hHeld => ?_)
    refine nA 68 ?_
    refine pA 6 69 (bmE 8 127) ?_
    refine last_ (i:=7) (N:=none) (bmE 8 255) rfl rfl (by kernel_rfl) (by decide) (fun K hK => ?_)
    have z5:=cell_of (j:=5) hO6 rfl
    have u5:=unfr hO6 5
    refine sA ?_
    refine hK.out _ _ ?_
    refine done_ (by kernel_rfl) ?_
    have hbV:=(I.out _ hb).2.2.2.2.2.2.2.2.2.2.2.2.2.2
    have hMV:∀ k,k<w12.heap.size→k≠W9.heap.size→(w6.setCell ⟨W9.heap.size,5,none⟩ (.slice A6 fr.length c6)).heap[k]? = V.heap[k]? := fun k hk hn=>(Below.heap_setCell _ _ _ _ (by simpa using hn)).trans (HK6.out k hk)
    have hbE:Below w.heap.size w (w6.setCell ⟨W9.heap.size,5,none⟩ (.slice A6 fr.length c6)):=(hbV.trans HB6.out).trans ((Only.setCell w6 ⟨W9.heap.size,5,none⟩ _).below (B:=w.heap.size) (by have:=HB6.out.size;omega) (fun k hk e=>by have e':k=W9.heap.size:=e;omega))
    have hOE:=set_block hO6 5 (.slice A6 fr.length c6)
    have hRE:=(hMV (w.heap.size+2) (by omega) (by omega)).trans (I.out _ hb).2.2.2.2.2.2.2.2.2.2.1
    have hAE:=(hMV (w.heap.size+3) (by omega) (by omega)).trans (I.out _ hb).2.2.2.2.2.2.2.2.2.1
    have hBE:=(hMV (W10.heap.size) (by omega) (by omega)).trans (I.out _ hb).1
    have hCE:=(hMV g6 (by omega) (by omega)).trans (I.out _ hb).2.2.2.2.2.2.2.2.2.2.2.2.2.1
    have HKE:Hid (∀ k,k≠W9.heap.size→(w6.setCell ⟨W9.heap.size,5,none⟩ (.slice A6 fr.length c6)).heap[k]? = w6.heap[k]?):=Lib.hid fun k hn=>Below.heap_setCell _ _ _ _ (by simpa using hn)
    have hsE:(w6.setCell ⟨W9.heap.size,5,none⟩ (.slice A6 fr.length c6)).heap.size=w6.heap.size:=by simp [World.setCell]
    have hsE2:w6.heap.size≤(w6.setCell ⟨W9.heap.size,5,none⟩ (.slice A6 fr.length c6)).heap.size:=by omega
    clear hsE hO6 hMV hbV I
    generalize (w6.setCell ⟨W9.heap.size,5,none⟩ (.slice A6 fr.length c6))=W14 at *
    have I:=Lib.hid (Hd.base hbE (by first | exact Nat.le_refl _ | exact Below.size hbE))
    replace I:=Lib.hid (Hd.and I.out (Hd.box (hOE)))
    replace I:=Lib.hid (Hd.and I.out (Hd.box (hBE)))
    replace I:=Lib.hid (Hd.and I.out (Hd.box (hCE)))
    replace I:=Lib.hid (Hd.and I.out (Hd.box (hRE)))
    replace I:=Lib.hid (Hd.and I.out (Hd.box (hAE)))
    clear hbE hOE hRE hAE hBE hCE
    go_wp2_with fail
    replace I:=Lib.hid (Hd.mv I.out (bdrew (Below.refl W14.heap.size W14)))
    have HKD:Hid (∀ k,k≠W9.heap.size→W14.drew.heap[k]? = w6.heap[k]?):=Lib.hid HKE.out
    have hsD:w6.heap.size≤W14.drew.heap.size:=hsE2
    have hsW:w12.heap.size≤w6.heap.size:=by omega
    have HVW:=Lib.hid (fun k (h:k<w12.heap.size)=>(HK6.out k h).trans (HVB.out k h))
    have HZ:W14.drew.heap[w.heap.size+1+1]? = some (.cells #[.string ⟨#[]⟩,.int .u8 0,.string ⟨#[]⟩,.slice none 0 0,.slice none 0 0,.slice none 0 0] 36 (0,0)):=I.out.now.2.1
    have HA:W14.drew.heap[w.heap.size+1+1+1]? = some (.cells #[.int .u8 0,.int .i64 0,.string ⟨#[]⟩] 46 (0,0)):=I.out.now.1
    have HST:=Lib.hid (store9 HZ HA (by omega) (.string t.name) (.int .u8 t.kind) (.string t.data) (.slice A t.files.length c) (.slice Al l.length cl) (.slice A6 fr.length c6) (.int .u8 0) (.int .i64 0) (.string ⟨#[]⟩))
    have HBV:=Lib.hid (I.out.now.2.2.2.2.2.trans (HST.out.2.2.below (B:=w.heap.size) (by have:=Below.size I.out.now.2.2.2.2.2;omega) (fun k hk e=>by omega)))
    obtain ⟨z0,z1,z2,z3,z4,z5⟩:=c6A HZ
    obtain ⟨u0,u1,u2,u3,u4,u5⟩:=u6A HZ
    obtain ⟨y0,y1,y2⟩:=c3A HA
    obtain ⟨n0,n1,n2⟩:=u3A HA
    refine start_ (n:=7) (S:=fun w'=>w'.heap[W9.heap.size]? = some (.cells #[.string t.name,.int .u8 t.kind,.string t.data,.slice A t.files.length c,.slice Al l.length cl,.slice A6 fr.length c6] 36 (0,0))∧w'.heap[W10.heap.size]? = some (.cells #[.int .u8 0,.int .i64 0,.string ⟨#[]⟩] 46 (0,0))∧w'.heap[g6]? = some (.cells #[.int .u8 x.kind,.slice A4 x.path.length c4,.slice A5 x.dest.length c5,.int .i64 42] 79 (0,0))) (ds:=[]) (bmE 7 0) (by kernel_rfl) rfl rfl ⟨I.out.now.2.2.2.2.1,I.out.now.2.2.2.1,I.out.now.2.2.1⟩ (fun hHeld => ?_)
    generalize W14.drew=Wd at *
    refine pA 2 72 (bmE 7 4) ?_
    refine tA 0 70 (bmE 7 5) hHeld ?_ (hy:=by
     rintro w' ⟨s0,s1,s2⟩
     have q0:=cell_of (j:=0) s0 rfl
     have q1:=cell_of (j:=1) s0 rfl
     have q2:=cell_of (j:=2) s0 rfl
     have q3:=cell_of (j:=3) s0 rfl
     have q4:=cell_of (j:=4) s0 rfl
     have q5:=cell_of (j:=5) s0 rfl
     go_simp
     with_reducible rfl)
    refine tA 1 71 (bmE 7 7) hHeld ?_ (hy:=by
     rintro w' ⟨s0,s1,s2⟩
     have q0:=cell_of (j:=0) s1 rfl
     have q1:=cell_of (j:=1) s1 rfl
     have q2:=cell_of (j:=2) s1 rfl
     go_simp
     with_reducible rfl)
    refine tA 3 73 (bmE 7 15) hHeld ?_ (hy:=by
     rintro w' ⟨s0,s1,s2⟩
     have q3:=cell_of (j:=3) s2 rfl
     go_simp
     with_reducible rfl)
    refine one_ (i:=4) (N:=none) (bmE 7 31) rfl rfl (by kernel_rfl) (by decide) (fun K hK => ?_)
    refine sA ?_
    refine hK.out _ _ ⟨(store6_other _ (g:=w.heap.size+1+1) (by omega) _ _ _ _ _ _).trans hHeld.1,(store6_other _ (g:=w.heap.size+1+1) (by omega) _ _ _ _ _ _).trans hHeld.2.1,(store6_other _ (g:=w.heap.size+1+1) (by omega) _ _ _ _ _ _).trans hHeld.2.2⟩ (fun hHeld => ?_)
    have hA15:=(store6_other Wd (g:=w.heap.size+1+1) (k:=w.heap.size+1+1+1) (by omega) (.string t.name) (.int .u8 t.kind) (.string t.data) (.slice A t.files.length c) (.slice Al l.length cl) (.slice A6 fr.length c6)).trans HA
    obtain ⟨yy0,yy1,yy2⟩:=c3A hA15
    obtain ⟨nn0,nn1,nn2⟩:=u3A hA15
    clear hA15 HZ HA z0 z1 z2 z3 z4 z5 u0 u1 u2 u3 u4 u5 y0 y1 y2 n0 n1 n2
    generalize ((((((Wd.setCell ⟨w.heap.size+1+1,0,none⟩ (.string t.name)).setCell ⟨w.heap.size+1+1,1,none⟩ (.int .u8 t.kind)).setCell ⟨w.heap.size+1+1,2,none⟩ (.string t.data)).setCell ⟨w.heap.size+1+1,3,none⟩ (.slice A t.files.length c)).setCell ⟨w.heap.size+1+1,4,none⟩ (.slice Al l.length cl)).setCell ⟨w.heap.size+1+1,5,none⟩ (.slice A6 fr.length c6))=W15 at *
    refine one_ (i:=5) (N:=none) (bmE 7 63) rfl rfl (by kernel_rfl) (by decide) (fun K hK => ?_)
    refine sA ?_
    refine hK.out _ _ ⟨(store3_other _ (g:=w.heap.size+1+1+1) (by omega) _ _ _).trans hHeld.1,(store3_other _ (g:=w.heap.size+1+1+1) (by omega) _ _ _).trans hHeld.2.1,(store3_other _ (g:=w.heap.size+1+1+1) (by omega) _ _ _).trans hHeld.2.2⟩ (fun hHeld => ?_)
    refine pA 6 6 (bmE 7 127) ?_
    refine done_ (by kernel_rfl) ?_
    go_wp2_with fail
    refine bodyPost_ret (results_cct rfl _ _ (w.heap.size+1+1) (w.heap.size+1+1+1) 36 46 #[.string t.name,.int .u8 t.kind,.string t.data,.slice A t.files.length c,.slice Al l.length cl,.slice A6 fr.length c6] #[.int .u8 0,.int .i64 0,.string ⟨#[]⟩] (0,0) (0,0) _ _ rfl HST.out.1 Tryz.underlying36 rfl (by kernel_rfl) rfl HST.out.2.1 Tryz.underlying46 rfl (by kernel_rfl)) rfl ?_
    refine ⟨A,c,A6,c6,rfl,hc,hN6,fun Wx hx1 hx2 hx3=>⟨HUF.out Wx hx1 (fun k h1 h2=>absurd h2 (by omega)),(Kd.N_reads' (Kd.N_step HN.out fun k hk hl => ?_)).2.2⟩,HBV.out⟩
    have hk2:(w.heap.size+3<k∧k<W9.heap.size∧k≠g6)∨w12.heap.size≤k:=hk
    exact (hx3 k (by omega) (Nat.lt_of_lt_of_le (show k<Wd.heap.size by omega) HST.out.2.2.size)).trans ((HST.out.2.2.block k (by omega) (by omega)).trans (HKD.out k (by omega)))
  obtain ⟨⟨u,ua,uw⟩,hrd⟩:∃ r,rdoD t x=r:=⟨_,rfl⟩
  have HRD:=Lib.hid hrd
  have HE:=(doV_fit (f:=⟨t,tr,l⟩) HRT.out HOX.out HFIT.out (of_decide_eq_false HB3.out)).symm.trans HR.out
  rw [if_pos HK5.out] at HE
  simp only [hrd] at HE
  injection HE with he1 he2
  injection he1 with he3 he4 he5
  injection he2 with he6 he7
  subst he3 he5 he6 he7
  have HTR2:=Lib.hid he4
  clear he4 hrd
  have HPN:=Lib.hid (show ∀ b,∀ n∈(walkR t x.path b).1,n.size≤100000000 from fun b n hn=>by have h1:=walk_sum t x.path b;have h2:=sumP_in hn;omega)
  have HQN:=Lib.hid (show ∀ n∈(walkR t x.dest false).1,n.size≤100000000 from fun n hn=>by have h1:=walk_sum t x.dest false;have h2:=sumP_in hn;omega)
  obtain ⟨lf0,lf1,lf2,lf3,lf4,lf5⟩:=c6A I.out.now.2.2.2.2.2.2.2.2.2.2.2.2.1
  obtain ⟨lx0,lx1,lx2,lx3⟩:=c4A I.out.now.2.2.2.2.2.2.2.2.2.2.2.1
  go_wp2_with fail
  clear lf0 lf1 lf2 lf3 lf4 lf5
  clear lx0 lx1 lx2 lx3
  refine ((show Calls Tryz.prog 31 #[.agg (fc t A c),.agg #[.int .u8 x.kind,.slice A1 x.path.length c1,.slice B1 x.dest.length d1,.string x.data]] w12 _ from rdoD_calls t A c x HOX.out A1 B1 c1 d1 w12 I.out.now.2.2.2.2.2.2.2.2.1 hc hbt HRT.out I.out.now.2.2.2.2.2.1 hcp1 (by omega) HPN.out I.out.now.2.2.2.2.1 hdq1 (by omega) HQN.out hxd)).mono ?_
  rintro e w21 ⟨A8,c8,rfl,hc8,hU8,hq21⟩
  replace I:=Lib.hid (Hd.mv I.out hq21)
  rw [HRD.out] at hc8 hU8 ⊢
  simp only at hc8 hU8 ⊢
  have HUF:=Lib.hid hU8
  have hsk:=hq21.size
  have hO0:=I.out.now.2.1
  have hB0:=I.out.now.1
  have hC0:=I.out.now.2.2.2.2.2.2.2.2.2.2.2.2.2.1
  clear hU8
  obtain ⟨zo0,zo1,zo2,zo3⟩:=c4A hO0
  obtain ⟨uo0,uo1,uo2,uo3⟩:=u4A hO0
  obtain ⟨zb0,zb1,zb2⟩:=c3A hB0
  obtain ⟨ub0,ub1,ub2⟩:=u3A hB0
  have zc3:=cell_of (j:=3) hC0 rfl
  have uc3:=unfr hC0 3
  have h9:W9.heap.size<w12.heap.size∧W10.heap.size<w12.heap.size∧W9.heap.size<W10.heap.size:=⟨by omega,by omega,by omega⟩
  have H8:=Lib.hid (store8 hO0 hB0 hC0 (by omega) (by omega) (by omega) (.string u.name) (.int .u8 u.kind) (.string u.data) (.slice A8 u.files.length c8) (.int .u8 ua.kind) (.int .i64 ua.size) (.string ua.data) (.int .i64 uw))
  have hF8:=(H8.out.2.2.2.block w.heap.size (by omega) (by omega)).trans I.out.now.2.2.2.2.2.2.2.2.2.2.2.2.1
  have hR8:=(H8.out.2.2.2.block (w.heap.size+2) (by omega) (by omega)).trans I.out.now.2.2.2.2.2.2.2.2.2.2.1
  have hA8:=(H8.out.2.2.2.block (w.heap.size+3) (by omega) (by omega)).trans I.out.now.2.2.2.2.2.2.2.2.2.1
  have hb8:=I.out.now.2.2.2.2.2.2.2.2.2.2.2.2.2.2.trans (H8.out.2.2.2.below (B:=w.heap.size) (by omega) (fun k hk e=>by omega))
  have hCP8:=Kd.R_step I.out.now.2.2.2.1 (fun k hk hl=>H8.out.2.2.2.block k hl (fun e=>by have h1:=hk.2.1;have h2:=hk.2.2;omega))
  have hCQ8:=Kd.R_step I.out.now.2.2.1 (fun k hk hl=>H8.out.2.2.2.block k hl (fun e=>by have h1:=hk.2.1;have h2:=hk.2.2;omega))
  have HMW:Hid (∀ k,k<w21.heap.size→k≠W9.heap.size→k≠W10.heap.size→k≠g6→((((((((w21.setCell ⟨W9.heap.size,0,none⟩ (.string u.name)).setCell ⟨W9.heap.size,1,none⟩ (.int .u8 u.kind)).setCell ⟨W9.heap.size,2,none⟩ (.string u.data)).setCell ⟨W9.heap.size,3,none⟩ (.slice A8 u.files.length c8)).setCell ⟨W10.heap.size,0,none⟩ (.int .u8 ua.kind)).setCell ⟨W10.heap.size,1,none⟩ (.int .i64 ua.size)).setCell ⟨W10.heap.size,2,none⟩ (.string ua.data)).setCell ⟨g6,3,none⟩ (.int .i64 uw)).heap[k]? = w21.heap[k]?):=Lib.hid (fun k hl a1 a2 a3=>H8.out.2.2.2.block k hl (fun e=>by omega))
  have hs13:=H8.out.2.2.2.size
  have hO8:=H8.out.1
  have hB8:=H8.out.2.1
  have hC8:=H8.out.2.2.1
  clear H8
  go_wp2_with fail
  clear zo0 zo1 zo2 zo3 uo0 uo1 uo2 uo3 zb0 zb1 zb2 ub0 ub1 ub2 zc3 uc3 hO0 hB0 hC0 I
  generalize ((((((((w21.setCell ⟨W9.heap.size,0,none⟩ (.string u.name)).setCell ⟨W9.heap.size,1,none⟩ (.int .u8 u.kind)).setCell ⟨W9.heap.size,2,none⟩ (.string u.data)).setCell ⟨W9.heap.size,3,none⟩ (.slice A8 u.files.length c8)).setCell ⟨W10.heap.size,0,none⟩ (.int .u8 ua.kind)).setCell ⟨W10.heap.size,1,none⟩ (.int .i64 ua.size)).setCell ⟨W10.heap.size,2,none⟩ (.string ua.data)).setCell ⟨g6,3,none⟩ (.int .i64 uw))=W13 at *
  have I:=Lib.hid (Hd.base hb8 (by first | exact Nat.le_refl _ | exact Below.size hb8))
  replace I:=Lib.hid (Hd.and I.out (Hd.box (hO8)))
  replace I:=Lib.hid (Hd.and I.out (Hd.box (hB8)))
  replace I:=Lib.hid (Hd.and I.out (Hd.box (hC8)))
  replace I:=Lib.hid (Hd.and I.out (Hd.box (hF8)))
  replace I:=Lib.hid (Hd.and I.out (Hd.box (hR8)))
  replace I:=Lib.hid (Hd.and I.out (Hd.box (hA8)))
  replace I:=Lib.hid (Hd.and I.out (Hd.reads ((HT0.out _ hb8).2)))
  replace I:=Lib.hid (Hd.and I.out (Hd.rows hCP8))
  replace I:=Lib.hid (Hd.and I.out (Hd.rows hCQ8))
  clear hCQ8
  clear hO8 hB8 hC8 hF8 hR8 hA8 hCP8 hb8
  have hWW:W9.heap.size<W13.heap.size∧W10.heap.size<W13.heap.size:=⟨by omega,by omega⟩
  refine start_ (n:=8) (S:=fun w'=>w'.heap[w.heap.size]? = some (.cells #[.string t.name,.int .u8 t.kind,.string t.data,.slice A t.files.length c,.slice Al l.length cl,.slice At tr.length ct] 36 (0,0))∧w'.heap[g6]? = some (.cells #[.int .u8 x.kind,.slice A4 x.path.length c4,.slice A5 x.dest.length c5,.int .i64 uw] 79 (0,0))) (ds:=[7]) (bmE 8 0) (by kernel_rfl) rfl rfl ⟨(I.out _ (bdrew (Below.refl W13.heap.size W13))).2.2.2.2.2.1,(I.out _ (bdrew (Below.refl W13.heap.size W13))).2.2.2.2.2.2.1⟩ (fun hHeld => ?_)
  refine pA 0 63 (bmE 8 1) ?_
  refine tA 1 64 (bmE 8 3) hHeld ?_ (hy:=by
   rintro w' ⟨s0,s1⟩
   have q5:=cell_of (j:=5) s0 rfl
   go_simp
   with_reducible rfl)
  refine tA 3 66 (bmE 8 11) hHeld ?_ (hy:=by
   rintro w' ⟨s0,s1⟩
   have q0:=cell_of (j:=0) s1 rfl
   have q1:=cell_of (j:=1) s1 rfl
   have q2:=cell_of (j:=2) s1 rfl
   have q3:=cell_of (j:=3) s1 rfl
   go_simp
   with_reducible rfl)
  refine join_ (σ:=(Option Addr×Nat)×Nat) 3 (bmE 8 31) (fun s=>match s with | ((A7,c7),g4)=>[(65,.slice A7 tr.length c7),(67,.slice (some ⟨g4,0,none⟩) 1 1)]) (fun s W=>match s with | ((A7,c7),g4)=>Below W13.heap.size W13 W∧W13.heap.size≤g4∧W.heap[g4]? = some (.cells #[.int .u8 x.kind,.slice A4 x.path.length c4,.slice A5 x.dest.length c5,.int .i64 uw] 79 (0,0))∧CallK.R 79 W W13.heap.size (fun _=>True) (.slice A7 tr.length c7) tr∧(∀ k,(Value.slice A7 tr.length c7).ownBlock=some k→k≠g4)) ?_ ?_
  rotate_left
  ·intro hc0
   refine join_ (σ:=(Option Addr×Nat)) 4 (bmE 8 15) (fun s=>match s with | (A7,c7)=>[(65,.slice A7 tr.length c7)]) (fun s W=>match s with | (A7,c7)=>Below W13.heap.size W13 W∧CallK.R 79 W W13.heap.size (fun _=>True) (.slice A7 tr.length c7) tr) ?_ ?_
   ·rintro ⟨A7,c7⟩ V hF
    obtain ⟨hb,hr7⟩:=hF
    refine uA ?_
    refine eA 4 67 (bmE 8 31) (fun K hK => ?_)
    have ha:=below_alloc (Below.refl V.heap.size V) (.cells #[.int .u8 x.kind,.slice A4 x.path.length c4,.slice A5 x.dest.length c5,.int .i64 uw] 79)
    have hbn:=below_alloc hb (.cells #[.int .u8 x.kind,.slice A4 x.path.length c4,.slice A5 x.dest.length c5,.int .i64 uw] 79)
    refine vA ?_
    refine hK.out _ _ (⟨(I.out _ hbn).2.2.2.2.2.1,(I.out _ hbn).2.2.2.2.2.2.1⟩) (fun hHeld => ?_)
    refine nA 67 ?_
    refine jA (hc0 ((A7,c7),V.heap.size) _ (⟨hbn,hb.size,blk_new V (.cells #[.int .u8 x.kind,.slice A4 x.path.length c4,.slice A5 x.dest.length c5,.int .i64 uw] 79),Kd.R_below hr7 ha,fun k hk e=>by have:=Kd.R_lt hr7 k hk;omega⟩))
   intro hc1
   refine join_ (σ:=Nat) 4 (bmE 8 27) (fun s=>match s with | g4=>[(67,.slice (some ⟨g4,0,none⟩) 1 1)]) (fun s W=>match s with | g4=>Below W13.heap.size W13 W∧W13.heap.size≤g4∧W.heap[g4]? = some (.cells #[.int .u8 x.kind,.slice A4 x.path.length c4,.slice A5 x.dest.length c5,.int .i64 uw] 79 (0,0))) ?_ ?_
   ·rintro g4 V hF
    obtain ⟨hb,hl4,hz4⟩:=hF
    refine uA ?_
    refine eA 2 65 (bmE 8 31) (fun K hK => ?_)
    refine gA Tryz.func32 #[.slice At tr.length ct] ?_
    refine (copiedP At ct tr _ (I.out _ hb).2.2.1 hct (by omega) (fun y hy=>⟨by have:=(hsh y hy).1;omega,by have:=(hsh y hy).2;omega⟩)).mono ?_
    rintro e w5 ⟨A7,c7,rfl,hR,hq5⟩
    refine ⟨_,rfl,?_⟩
    have hbn:=hb.trans (hq5.mono hb.size)
    refine hK.out _ _ (⟨(I.out _ hbn).2.2.2.2.2.1,(I.out _ hbn).2.2.2.2.2.2.1⟩) (fun hHeld => ?_)
    refine nA 65 ?_
    refine jA (hc0 ((A7,c7),g4) _ (⟨hbn,hl4,(hq5.block _ (blk_lt hz4)).trans hz4,Kd.R_lower hR hb.size,fun k hk e=>by have:=((Kd.R_bound hR).1 k hk).2.1;have:=blk_lt hz4;omega⟩))
   intro hc2
   have hb:Below W13.heap.size W13 W13.drew:=bdrew (Below.refl _ _)
   generalize hVV:W13.drew=V at *
   refine two_ (i:=2) (j:=4) (Ni:=some 65) (Nj:=some 67) (bmE 8 15) (bmE 8 27) rfl rfl rfl rfl (by kernel_rfl) (by decide) (by decide) (fun K hK => ?_) (fun K hK => ?_)
   ·refine gA Tryz.func32 #[.slice At tr.length ct] ?_
    refine (copiedP At ct tr _ (I.out _ hb).2.2.1 hct (by omega) (fun y hy=>⟨by have:=(hsh y hy).1;omega,by have:=(hsh y hy).2;omega⟩)).mono ?_
    rintro e w5 ⟨A7,c7,rfl,hR,hq5⟩
    refine ⟨_,rfl,?_⟩
    have hbn:=hb.trans (hq5.mono hb.size)
    refine hK.out _ _ (⟨(I.out _ hbn).2.2.2.2.2.1,(I.out _ hbn).2.2.2.2.2.2.1⟩) (fun hHeld => ?_)
    refine nA 65 ?_
    refine jA (hc1 (A7,c7) _ (⟨hbn,Kd.R_lower hR hb.size⟩))
   ·have ha:=below_alloc (Below.refl V.heap.size V) (.cells #[.int .u8 x.kind,.slice A4 x.path.length c4,.slice A5 x.dest.length c5,.int .i64 uw] 79)
    have hbn:=below_alloc hb (.cells #[.int .u8 x.kind,.slice A4 x.path.length c4,.slice A5 x.dest.length c5,.int .i64 uw] 79)
    refine vA ?_
    refine hK.out _ _ (⟨(I.out _ hbn).2.2.2.2.2.1,(I.out _ hbn).2.2.2.2.2.2.1⟩) (fun hHeld => ?_)
    refine nA 67 ?_
    refine jA (hc2 V.heap.size _ (⟨hbn,hb.size,blk_new V (.cells #[.int .u8 x.kind,.slice A4 x.path.length c4,.slice A5 x.dest.length c5,.int .i64 uw] 79)⟩))
  ·rintro ⟨⟨A7,c7⟩,g4⟩ V hF
   obtain ⟨hb,hl4,hz4,hr7,hj⟩:=hF
   refine uA ?_
   refine eA 5 68 (bmE 8 63) (fun K hK => ?_)
   have hsV:=hb.size
   refine Kd.N_append_rows_step CallK (w0:=V) 0 (by rfl) (.tmp 65) (.tmp 67) 34 79 (.agg #[.int .u8 0,.slice none 0 0,.slice none 0 0,.int .i64 0]) 64 rfl Tryz.underlying34 info_call rfl (by decide) (by omega) (.slice A7 tr.length c7) tr [(⟨x.kind,x.path,x.dest,uw⟩:Call)] (some ⟨g4,0,none⟩) 1 1 (fun k=>(w.heap.size+3<k∧k<W9.heap.size∧k≠g6)∨W13.heap.size≤k) (fun k=>k=g4∨(w.heap.size+3<k∧k<W9.heap.size∧k≠g6)) rfl rfl ?aO ?aR ?aK ?aF ?aB ?aS ?aL ?_
   case aO=>exact Kd.N_mono (Kd.R_N (Kd.R_lower (Kd.R_bound hr7) (Nat.zero_le _))) (fun k hk=>.inr hk.2.1)
   case aR =>
    have hCP:=(I.out _ hb).2.1
    have hCQ:=(I.out _ hb).1
    exact fun W' hW'=>callC_box ((hW' g4 (.inl rfl) (blk_lt hz4)).trans hz4) (CallK.K_of_M (call_mkM W' 0 (fun _=>True) (⟨x.kind,x.path,x.dest,uw⟩:Call) (Kd.R_mono (Kd.R_lower (Kd.R_step hCP fun k hk hl=>hW' k (.inr ⟨by have:=hk.1;omega,hk.2.1,hk.2.2⟩) hl) (Nat.zero_le _)) (fun _ _=>trivial)) (Kd.R_mono (Kd.R_lower (Kd.R_step hCQ fun k hk hl=>hW' k (.inr ⟨by have:=hk.1;omega,hk.2.1,hk.2.2⟩) hl) (Nat.zero_le _)) (fun _ _=>trivial))))
   case aK =>
    rintro k (rfl | hk)
    ·exact ⟨.inr hl4,fun e=>hj _ e.symm rfl⟩
    ·exact ⟨.inl hk,fun e=>by have:=((Kd.R_bound hr7).1 k e.symm).2.1;omega⟩
   case aF=>exact fun k hk=>.inr (by omega)
   case aB=>exact Below.refl _ _
   case aS=>exact Nat.zero_le _
   case aL=>omega
   intro v6 w6 hN hB6 hgr6 hat6
   rw [HTR2.out] at hN
   obtain ⟨A6,c6,rfl⟩:=Kd.N_slice hN
   have hN6:=(Kd.N_reads' hN).2.1
   have HVB:Hid (∀ k,k<W13.heap.size→V.heap[k]? = W13.heap[k]?):=Lib.hid fun k hk=>hb.block k hk
   have HN:=Lib.hid hN
   have hs6:=hgr6.size
   have HK6:Hid (∀ k,k<W13.heap.size→w6.heap[k]? = V.heap[k]?):=Lib.hid fun k hk=>hgr6.block k (by omega) (fun e=>by have:=((Kd.R_bound hr7).1 k e.symm).2.1;omega)
   have HB6:Hid (Below w.heap.size V w6):=Lib.hid ((Only.grown_of hgr6).below (by omega) (fun k hk e=>by have:=((Kd.R_bound hr7).1 k e).2.1;omega))
   have hO6:=(HK6.out _ (by omega)).trans ((I.out _ hb).2.2.2.2.2.2.2.2.1)
   clear hN hB6 hgr6 hat6
   refine hK.out _ _ ⟨(HK6.out _ (by omega)).trans ((I.out _ hb).2.2.2.2.2.1),(HK6.out _ (by omega)).trans ((I.out _ hb).2.2.2.2.2.2.1)⟩ (fun hHeld => ?_)
   refine nA 68 ?_
   refine pA 6 69 (bmE 8 127) ?_
   refine last_ (i:=7) (N:=none) (bmE 8 255) rfl rfl (by kernel_rfl) (by decide) (fun K hK => ?_)
   have z5:=cell_of (j:=5) hO6 rfl
   have u5:=unfr hO6 5
   refine sA ?_
   refine hK.out _ _ ?_
   refine done_ (by kernel_rfl) ?_
   have hbV:=(I.out _ hb).2.2.2.2.2.2.2.2.2
   have hMV:∀ k,k<W13.heap.size→k≠W9.heap.size→(w6.setCell ⟨W9.heap.size,5,none⟩ (.slice A6 fr.length c6)).heap[k]? = V.heap[k]? := fun k hk hn=>(Below.heap_setCell _ _ _ _ (by simpa using hn)).trans (HK6.out k hk)
   have hbE:Below w.heap.size w (w6.setCell ⟨W9.heap.size,5,none⟩ (.slice A6 fr.length c6)):=(hbV.trans HB6.out).trans ((Only.setCell w6 ⟨W9.heap.size,5,none⟩ _).below (B:=w.heap.size) (by have:=HB6.out.size;omega) (fun k hk e=>by have e':k=W9.heap.size:=e;omega))
   have hOE:=set_block hO6 5 (.slice A6 fr.length c6)
   have hRE:=(hMV (w.heap.size+2) (by omega) (by omega)).trans (I.out _ hb).2.2.2.2.1
   have hAE:=(hMV (w.heap.size+3) (by omega) (by omega)).trans (I.out _ hb).2.2.2.1
   have hBE:=(hMV (W10.heap.size) (by omega) (by omega)).trans (I.out _ hb).2.2.2.2.2.2.2.1
   have hCE:=(hMV g6 (by omega) (by omega)).trans (I.out _ hb).2.2.2.2.2.2.1
   have HKE:Hid (∀ k,k≠W9.heap.size→(w6.setCell ⟨W9.heap.size,5,none⟩ (.slice A6 fr.length c6)).heap[k]? = w6.heap[k]?):=Lib.hid fun k hn=>Below.heap_setCell _ _ _ _ (by simpa using hn)
   have hsE:(w6.setCell ⟨W9.heap.size,5,none⟩ (.slice A6 fr.length c6)).heap.size=w6.heap.size:=by simp [World.setCell]
   have hsE2:w6.heap.size≤(w6.setCell ⟨W9.heap.size,5,none⟩ (.slice A6 fr.length c6)).heap.size:=by omega
   clear hsE hO6 hMV hbV I
   generalize (w6.setCell ⟨W9.heap.size,5,none⟩ (.slice A6 fr.length c6))=W14 at *
   have I:=Lib.hid (Hd.base hbE (by first | exact Nat.le_refl _ | exact Below.size hbE))
   replace I:=Lib.hid (Hd.and I.out (Hd.box (hOE)))
   replace I:=Lib.hid (Hd.and I.out (Hd.box (hBE)))
   replace I:=Lib.hid (Hd.and I.out (Hd.box (hCE)))
   replace I:=Lib.hid (Hd.and I.out (Hd.box (hRE)))
   replace I:=Lib.hid (Hd.and I.out (Hd.box (hAE)))
   clear hbE hOE hRE hAE hBE hCE
   go_wp2_with fail
   replace I:=Lib.hid (Hd.mv I.out (bdrew (Below.refl W14.heap.size W14)))
   have HKD:Hid (∀ k,k≠W9.heap.size→W14.drew.heap[k]? = w6.heap[k]?):=Lib.hid HKE.out
   have hsD:w6.heap.size≤W14.drew.heap.size:=hsE2
   have hsW:W13.heap.size≤w6.heap.size:=by omega
   have HVW:=Lib.hid (fun k (h:k<W13.heap.size)=>(HK6.out k h).trans (HVB.out k h))
   have HZ:W14.drew.heap[w.heap.size+1+1]? = some (.cells #[.string ⟨#[]⟩,.int .u8 0,.string ⟨#[]⟩,.slice none 0 0,.slice none 0 0,.slice none 0 0] 36 (0,0)):=I.out.now.2.1
   have HA:W14.drew.heap[w.heap.size+1+1+1]? = some (.cells #[.int .u8 0,.int .i64 0,.string ⟨#[]⟩] 46 (0,0)):=I.out.now.1
   have HST:=Lib.hid (store9 HZ HA (by omega) (.string u.name) (.int .u8 u.kind) (.string u.data) (.slice A8 u.files.length c8) (.slice Al l.length cl) (.slice A6 fr.length c6) (.int .u8 ua.kind) (.int .i64 ua.size) (.string ua.data))
   have HBV:=Lib.hid (I.out.now.2.2.2.2.2.trans (HST.out.2.2.below (B:=w.heap.size) (by have:=Below.size I.out.now.2.2.2.2.2;omega) (fun k hk e=>by omega)))
   obtain ⟨z0,z1,z2,z3,z4,z5⟩:=c6A HZ
   obtain ⟨u0,u1,u2,u3,u4,u5⟩:=u6A HZ
   obtain ⟨y0,y1,y2⟩:=c3A HA
   obtain ⟨n0,n1,n2⟩:=u3A HA
   refine start_ (n:=7) (S:=fun w'=>w'.heap[W9.heap.size]? = some (.cells #[.string u.name,.int .u8 u.kind,.string u.data,.slice A8 u.files.length c8,.slice Al l.length cl,.slice A6 fr.length c6] 36 (0,0))∧w'.heap[W10.heap.size]? = some (.cells #[.int .u8 ua.kind,.int .i64 ua.size,.string ua.data] 46 (0,0))∧w'.heap[g6]? = some (.cells #[.int .u8 x.kind,.slice A4 x.path.length c4,.slice A5 x.dest.length c5,.int .i64 uw] 79 (0,0))) (ds:=[]) (bmE 7 0) (by kernel_rfl) rfl rfl ⟨I.out.now.2.2.2.2.1,I.out.now.2.2.2.1,I.out.now.2.2.1⟩ (fun hHeld => ?_)
   generalize W14.drew=Wd at *
   refine pA 2 72 (bmE 7 4) ?_
   refine tA 0 70 (bmE 7 5) hHeld ?_ (hy:=by
    rintro w' ⟨s0,s1,s2⟩
    have q0:=cell_of (j:=0) s0 rfl
    have q1:=cell_of (j:=1) s0 rfl
    have q2:=cell_of (j:=2) s0 rfl
    have q3:=cell_of (j:=3) s0 rfl
    have q4:=cell_of (j:=4) s0 rfl
    have q5:=cell_of (j:=5) s0 rfl
    go_simp
    with_reducible rfl)
   refine tA 1 71 (bmE 7 7) hHeld ?_ (hy:=by
    rintro w' ⟨s0,s1,s2⟩
    have q0:=cell_of (j:=0) s1 rfl
    have q1:=cell_of (j:=1) s1 rfl
    have q2:=cell_of (j:=2) s1 rfl
    go_simp
    with_reducible rfl)
   refine tA 3 73 (bmE 7 15) hHeld ?_ (hy:=by
    rintro w' ⟨s0,s1,s2⟩
    have q3:=cell_of (j:=3) s2 rfl
    go_simp
    with_reducible rfl)
   refine one_ (i:=4) (N:=none) (bmE 7 31) rfl rfl (by kernel_rfl) (by decide) (fun K hK => ?_)
   refine sA ?_
   refine hK.out _ _ ⟨(store6_other _ (g:=w.heap.size+1+1) (by omega) _ _ _ _ _ _).trans hHeld.1,(store6_other _ (g:=w.heap.size+1+1) (by omega) _ _ _ _ _ _).trans hHeld.2.1,(store6_other _ (g:=w.heap.size+1+1) (by omega) _ _ _ _ _ _).trans hHeld.2.2⟩ (fun hHeld => ?_)
   have hA15:=(store6_other Wd (g:=w.heap.size+1+1) (k:=w.heap.size+1+1+1) (by omega) (.string u.name) (.int .u8 u.kind) (.string u.data) (.slice A8 u.files.length c8) (.slice Al l.length cl) (.slice A6 fr.length c6)).trans HA
   obtain ⟨yy0,yy1,yy2⟩:=c3A hA15
   obtain ⟨nn0,nn1,nn2⟩:=u3A hA15
   clear hA15 HZ HA z0 z1 z2 z3 z4 z5 u0 u1 u2 u3 u4 u5 y0 y1 y2 n0 n1 n2
   generalize ((((((Wd.setCell ⟨w.heap.size+1+1,0,none⟩ (.string u.name)).setCell ⟨w.heap.size+1+1,1,none⟩ (.int .u8 u.kind)).setCell ⟨w.heap.size+1+1,2,none⟩ (.string u.data)).setCell ⟨w.heap.size+1+1,3,none⟩ (.slice A8 u.files.length c8)).setCell ⟨w.heap.size+1+1,4,none⟩ (.slice Al l.length cl)).setCell ⟨w.heap.size+1+1,5,none⟩ (.slice A6 fr.length c6))=W15 at *
   refine one_ (i:=5) (N:=none) (bmE 7 63) rfl rfl (by kernel_rfl) (by decide) (fun K hK => ?_)
   refine sA ?_
   refine hK.out _ _ ⟨(store3_other _ (g:=w.heap.size+1+1+1) (by omega) _ _ _).trans hHeld.1,(store3_other _ (g:=w.heap.size+1+1+1) (by omega) _ _ _).trans hHeld.2.1,(store3_other _ (g:=w.heap.size+1+1+1) (by omega) _ _ _).trans hHeld.2.2⟩ (fun hHeld => ?_)
   refine pA 6 6 (bmE 7 127) ?_
   refine done_ (by kernel_rfl) ?_
   go_wp2_with fail
   refine bodyPost_ret (results_cct rfl _ _ (w.heap.size+1+1) (w.heap.size+1+1+1) 36 46 #[.string u.name,.int .u8 u.kind,.string u.data,.slice A8 u.files.length c8,.slice Al l.length cl,.slice A6 fr.length c6] #[.int .u8 ua.kind,.int .i64 ua.size,.string ua.data] (0,0) (0,0) _ _ rfl HST.out.1 Tryz.underlying36 rfl (by kernel_rfl) rfl HST.out.2.1 Tryz.underlying46 rfl (by kernel_rfl)) rfl ?_
   refine ⟨A8,c8,A6,c6,rfl,hc8,hN6,fun Wx hx1 hx2 hx3=>⟨HUF.out Wx hx1 (fun k h1 h2=>(hx3 k (by omega) (Nat.lt_of_lt_of_le (show k<Wd.heap.size by omega) HST.out.2.2.size)).trans ((HST.out.2.2.block k (by omega) (by omega)).trans ((HKD.out k (by omega)).trans ((HVW.out k (by omega)).trans (HMW.out k (by omega) (by omega) (by omega) (by omega)))))),(Kd.N_reads' (Kd.N_step HN.out fun k hk hl => ?_)).2.2⟩,HBV.out⟩
   have hk2:(w.heap.size+3<k∧k<W9.heap.size∧k≠g6)∨W13.heap.size≤k:=hk
   exact (hx3 k (by omega) (Nat.lt_of_lt_of_le (show k<Wd.heap.size by omega) HST.out.2.2.size)).trans ((HST.out.2.2.block k (by omega) (by omega)).trans (HKD.out k (by omega)))
theorem rDo_calls (t:File) (A:Option Addr) (c:Nat) (l:List Int) (Al:Option Addr) (cl:Nat) (tr:List Call) (At:Option Addr) (ct:Nat) (x:Step) (hx:oneOf x=true) (A1 B1:Option Addr) (c1 d1:Nat) (w:World) (ht:FileK.C w A t.files.length t.files) (hc:t.files.length≤c) (hbt:t.bulk≤100000000) (hr:rightT t=true) (hl:Kd.C (Kd.int .i64) w Al l.length l) (hcl:l.length≤cl) (hll:l.length≤1099511627776) (htr:CallK.C w At tr.length tr) (hct:tr.length≤ct) (htl:tr.length≤900000) (hsh:shortT tr) (hp:Kd.C Kd.string w A1 x.path.length x.path) (hcp1:x.path.length≤c1) (hps:P.sumP x.path≤50000000) (hq:Kd.C Kd.string w B1 x.dest.length x.dest) (hdq1:x.dest.length≤d1) (hqs:P.sumP x.dest≤50000000) (hxd:x.data.size≤100000000) :
  Calls Tryz.prog 10 #[.agg #[.string t.name,.int .u8 t.kind,.string t.data,.slice A t.files.length c,.slice Al l.length cl,.slice At tr.length ct],.agg #[.int .u8 x.kind,.slice A1 x.path.length c1,.slice B1 x.dest.length d1,.string x.data]] w fun e w'=>∃ A' c' At' ct',e=.returned (.tuple #[.agg #[.string (doV ⟨t,tr,l⟩ x).1.tree.name,.int .u8 (doV ⟨t,tr,l⟩ x).1.tree.kind,.string (doV ⟨t,tr,l⟩ x).1.tree.data,.slice A' (doV ⟨t,tr,l⟩ x).1.tree.files.length c',.slice Al l.length cl,.slice At' (doV ⟨t,tr,l⟩ x).1.trace.length ct'],.agg #[.int .u8 (doV ⟨t,tr,l⟩ x).2.1.kind,.int .i64 (doV ⟨t,tr,l⟩ x).2.1.size,.string (doV ⟨t,tr,l⟩ x).2.1.data],.int .i64 (doV ⟨t,tr,l⟩ x).2.2])∧(doV ⟨t,tr,l⟩ x).1.tree.files.length≤c'∧(doV ⟨t,tr,l⟩ x).1.trace.length≤ct'∧(∀ W':World,FileK.C W' A t.files.length t.files→CallK.C W' At tr.length tr→(∀ k,w.heap.size≤k→k<w'.heap.size→W'.heap[k]? = w'.heap[k]?)→FileK.C W' A' (doV ⟨t,tr,l⟩ x).1.tree.files.length (doV ⟨t,tr,l⟩ x).1.tree.files∧CallK.C W' At' (doV ⟨t,tr,l⟩ x).1.trace.length (doV ⟨t,tr,l⟩ x).1.trace)∧Below w.heap.size w w':=by
 by_cases hk:x.kind=5
 ·exact rDo5_calls t A c l Al cl tr At ct x hx hk A1 B1 c1 d1 w ht hc hbt hr hl hcl hll htr hct htl hsh hp hcp1 hps hq hdq1 hqs hxd
 ·exact rDoN_calls t A c l Al cl tr At ct x hx hk A1 B1 c1 d1 w ht hc hbt hr hl hcl hll htr hct htl hsh hp hcp1 hps hq hdq1 hqs hxd
end Go.Proofs.YthlcjjhfkldmhaaGreatDoor.G
end
section
section
namespace Go.Proofs.YthlcjjhfkldmhaaGreatDoor.G
open Go.RowKit Go.Lib Go.Proofs.YthlcjjhfkldmhaaGreatDoorW.PrintWords Go.Proofs.YthlcjjhfkldmhaaGreatDoorW.PrintLast
set_option linter.unusedVariables false
def zeroStep:Step:=⟨0,[],[],⟨#[]⟩⟩
theorem step_at {w W:World} {A:Option Addr} {l:List Step} (h:StepK.C w A l.length l) (hb:Below w.heap.size w W) (k:Nat) (hk:k<l.length) :
  ∃ ad A' c' B' d',A=some ad∧W.cell? (ad.add (k * 4))=some (.int .u8 l[k].kind)∧W.cell? ⟨(ad.add (k * 4)).block,(ad.add (k * 4)).off+1,none⟩=some (.slice A' l[k].path.length c')
   ∧ W.cell? ⟨(ad.add (k * 4)).block,(ad.add (k * 4)).off+2,none⟩=some (.slice B' l[k].dest.length d')∧W.cell? ⟨(ad.add (k * 4)).block,(ad.add (k * 4)).off+3,none⟩=some (.string l[k].data)
   ∧ l[k].path.length≤c'∧Kd.F Kd.string W (fun j=>j<w.heap.size) A' l[k].path.length l[k].path∧l[k].dest.length≤d'∧Kd.F Kd.string W (fun j=>j<w.heap.size) B' l[k].dest.length l[k].dest:=by
 obtain ⟨ad,c,e,_,hK,hc0⟩:=Kd.C_get h zeroStep (k:Int) (by omega) (by omega)
 rw [Int.toNat_natCast] at hc0 hK
 have hg:l.getD k zeroStep=l[k]:=by simp [List.getD,hk]
 rw [hg] at hK
 have hc:∀ j u,c[j]? = some u→W.cell? (ad.add (k * 4+j))=some u:=fun j u hu=>by
  have h1:w.cell? (ad.add (k * 4+j))=some u:=hc0 j u hu
  exact (hb.cell (World.block_lt_of_cell? w _ h1)).trans h1
 obtain ⟨A',c',B',d',rfl,h1,h2,h3,h4⟩:=step_open hK
 have mv:∀ {X:Option Addr} {p:List ByteArray},Kd.C Kd.string w X p.length p→Kd.F Kd.string W (fun j=>j<w.heap.size) X p.length p:=fun q=>Kd.F_step (Kd.C_F Kd.heap_string q) fun j hj _=>hb.block j hj
 exact ⟨ad,A',c',B',d',e,hc 0 _ rfl,by rw [← add_field _ _ 1 (by omega)];exact hc 1 _ rfl,by rw [← add_field _ _ 2 (by omega)];exact hc 2 _ rfl,by rw [← add_field _ _ 3 (by omega)];exact hc 3 _ rfl,h1,mv h2,h3,mv h4⟩
theorem steps_len (l:List Step):5 * l.length≤stepsB l:=by
 induction l with
 | nil=>exact Nat.zero_le _
 | cons y r ih =>
  have h1:stepsB (y :: r)=stepB y+stepsB r:=by simp [stepsB]
  have h2:5≤stepB y:=by unfold stepB;omega
  simp only [List.length_cons]
  omega
theorem stepB_mem {l:List Step} {x:Step} (h:x∈l):stepB x≤stepsB l:=by
 induction l with
 | nil=>cases h
 | cons y r ih =>
  have h1:stepsB (y :: r)=stepB y+stepsB r:=by simp [stepsB]
  rcases List.mem_cons.1 h with rfl | h
  ·omega
  ·have:=ih h;omega
end Go.Proofs.YthlcjjhfkldmhaaGreatDoor.G
end
section
namespace Go.Proofs.YthlcjjhfkldmhaaGreatDoor.G
open Go.RowKit Go.Lib Go.Proofs.YthlcjjhfkldmhaaGreatDoorW.PrintWords Go.Proofs.YthlcjjhfkldmhaaGreatDoorW.PrintLast
set_option linter.unusedVariables false
set_option linter.unusedSimpArgs false
theorem heap_file:Kd.Heap FileK:=Kd.heap_fix fun d hd=>by
 unfold FileF
 exact Kd.heap_iso _ (Kd.heap_pair Kd.heap_string (Kd.heap_pair (Kd.heap_int _) (Kd.heap_pair Kd.heap_string (Kd.heap_slice _ hd))))
theorem calls_steps_take {L:List Step} {k:Nat} (hk:k<L.length):stepsB (L.take (k+1))=stepsB (L.take k)+stepB L[k]:=by
 rw [List.take_succ_eq_append_getElem hk]
 simp only [stepsB,List.map_append,List.map_cons,List.map_nil,List.sum_append,List.sum_cons,List.sum_nil]
 omega
theorem calls_steps_le (L:List Step) (k:Nat):stepsB (L.take k)≤stepsB L:=by
 have h:stepsB L=stepsB (L.take k)+stepsB (L.drop k):=by
  have h0:=congrArg stepsB (List.take_append_drop k L)
  rw [← h0]
  simp only [stepsB,List.map_append,List.sum_append]
 omega
def CallsI (W3:World) (g gr:Nat) (t:File) (l:List Int) (Al:Option Addr) (cl:Nat) (L:List Step) (k:Nat) (wr:World):Prop :=
 ∃ (S:Nat→Prop) (f:FsV) (Ar:Option Addr) (cr:Nat) (At:Option Addr) (ct:Nat),FsIn S wr g f∧(∀ j,S j→W3.heap.size≤j∧j<wr.heap.size)∧¬ S gr∧f.faults=l∧rightT f.tree=true∧f.tree.bulk≤t.bulk+259 * k+stepsB (L.take k)∧f.trace.length≤k∧shortT f.trace ∧
  wr.heap[gr]? = some (.cells #[.string f.tree.name,.int .u8 f.tree.kind,.string f.tree.data,.slice Ar f.tree.files.length cr,.slice Al l.length cl,.slice At f.trace.length ct] 36 (0,0))∧f.tree.files.length≤cr∧f.trace.length≤ct∧Kd.F FileK wr (fun j=>¬ S j∧j≠gr) Ar f.tree.files.length f.tree.files∧Kd.F CallK wr (fun j=>¬ S j∧j≠gr) At f.trace.length f.trace∧Below W3.heap.size W3 wr
theorem CallsI.next {W3 wr W:World} {g gr:Nat} {t:File} {l:List Int} {Al:Option Addr} {cl:Nat} {L:List Step} {k:Nat} (h:CallsI W3 g gr t l Al cl L k wr) (hb:Below wr.heap.size wr W) (hle:stepsB (L.take k)≤stepsB (L.take (k+1))):CallsI W3 g gr t l Al cl L (k+1) W:=by
 obtain ⟨S,f,Ar,cr,At,ct,h1,h2,h3,h4,h5,h6,h7,h8,h9,h10,h11,h12,h13,h14⟩:=h
 exact ⟨S,f,Ar,cr,At,ct,h1.below hb,fun j hj=>⟨(h2 j hj).1,by have:=(h2 j hj).2;have:=hb.size;omega⟩,h3,h4,h5,by omega,by omega,h8,(hb.block _ (blk_lt h9)).trans h9,h10,h11,Kd.F_below h12 hb,Kd.F_below h13 hb,h14.trans (hb.mono h14.size)⟩
theorem store6_only (W:World) (g:Nat) (v0 v1 v2 v3 v4 v5:Value):Only (fun k=>k=g) W ((((((W.setCell ⟨g,0,none⟩ v0).setCell ⟨g,1,none⟩ v1).setCell ⟨g,2,none⟩ v2).setCell ⟨g,3,none⟩ v3).setCell ⟨g,4,none⟩ v4).setCell ⟨g,5,none⟩ v5):=by
 have st:∀ {X:World} (i:Nat) (u:Value),Only (fun k=>k=g) W X→Only (fun k=>k=g) W (X.setCell ⟨g,i,none⟩ u):=fun i u h=>h.trans (Only.setCell _ _ _) (fun _ _ h=>h) (fun k _ e=>e)
 exact st 5 v5 (st 4 v4 (st 3 v3 (st 2 v2 (st 1 v1 (st 0 v0 (Only.refl _ _))))))
theorem store3_only (W:World) (g:Nat) (v0 v1 v2:Value):Only (fun k=>k=g) W (((W.setCell ⟨g,0,none⟩ v0).setCell ⟨g,1,none⟩ v1).setCell ⟨g,2,none⟩ v2):=by
 have st:∀ {X:World} (i:Nat) (u:Value),Only (fun k=>k=g) W X→Only (fun k=>k=g) W (X.setCell ⟨g,i,none⟩ u):=fun i u h=>h.trans (Only.setCell _ _ _) (fun _ _ h=>h) (fun k _ e=>e)
 exact st 2 v2 (st 1 v1 (st 0 v0 (Only.refl _ _)))
theorem rDo_F (t:File) (A:Option Addr) (c:Nat) (l:List Int) (Al:Option Addr) (cl:Nat) (tr:List Call) (At:Option Addr) (ct:Nat) (x:Step) (hx:oneOf x=true) (A1 B1:Option Addr) (c1 d1:Nat) (w:World) (OK:Nat→Prop) (ht:Kd.F FileK w OK A t.files.length t.files) (hc:t.files.length≤c) (hbt:t.bulk≤100000000) (hr:rightT t=true) (hl:Kd.C (Kd.int .i64) w Al l.length l) (hcl:l.length≤cl) (hll:l.length≤1099511627776) (htr:Kd.F CallK w OK At tr.length tr) (hct:tr.length≤ct) (htl:tr.length≤900000) (hsh:shortT tr) (hp:Kd.C Kd.string w A1 x.path.length x.path) (hcp1:x.path.length≤c1) (hps:P.sumP x.path≤50000000) (hq:Kd.C Kd.string w B1 x.dest.length x.dest) (hdq1:x.dest.length≤d1) (hqs:P.sumP x.dest≤50000000) (hxd:x.data.size≤100000000) (f':FsV) (a:Told) (why:Int) (hdo:doV ⟨t,tr,l⟩ x=(f',a,why)) :
  Calls Tryz.prog 10 #[.agg #[.string t.name,.int .u8 t.kind,.string t.data,.slice A t.files.length c,.slice Al l.length cl,.slice At tr.length ct],.agg #[.int .u8 x.kind,.slice A1 x.path.length c1,.slice B1 x.dest.length d1,.string x.data]] w fun e w'=>∃ A' c' At' ct' lo hi,e=.returned (.tuple #[.agg #[.string f'.tree.name,.int .u8 f'.tree.kind,.string f'.tree.data,.slice A' f'.tree.files.length c',.slice Al l.length cl,.slice At' f'.trace.length ct'],.agg #[.int .u8 a.kind,.int .i64 a.size,.string a.data],.int .i64 why])∧f'.tree.files.length≤c'∧f'.trace.length≤ct'∧w.heap.size≤lo∧hi≤w'.heap.size∧Kd.F FileK w' (fun j=>OK j∨(lo≤j∧j<hi)) A' f'.tree.files.length f'.tree.files∧Kd.F CallK w' (fun j=>OK j∨(lo≤j∧j<hi)) At' f'.trace.length f'.trace∧Below w.heap.size w w':=by
 have h:=rDo_calls t A c l Al cl tr At ct x hx A1 B1 c1 d1 w (Kd.F_now ht) hc hbt hr hl hcl hll (Kd.F_now htr) hct htl hsh hp hcp1 hps hq hdq1 hqs hxd
 rw [hdo] at h
 refine h.mono ?_
 rintro e w' ⟨A',c',At',ct',he,h1,h2,h3,h4⟩
 exact ⟨A',c',At',ct',w.heap.size,w'.heap.size,he,h1,h2,Nat.le_refl _,Nat.le_refl _,fun W' hW'=>(h3 W' (Kd.F_below ht h4 W' (fun k hk hl=>hW' k (.inl hk) hl)) (Kd.F_below htr h4 W' (fun k hk hl=>hW' k (.inl hk) hl)) (fun k h5 h6=>hW' k (.inr ⟨h5,h6⟩) h6)).1,fun W' hW'=>(h3 W' (Kd.F_below ht h4 W' (fun k hk hl=>hW' k (.inl hk) hl)) (Kd.F_below htr h4 W' (fun k hk hl=>hW' k (.inl hk) hl)) (fun k h5 h6=>hW' k (.inr ⟨h5,h6⟩) h6)).2,h4⟩
set_option maxHeartbeats 8000000 in
set_option maxRecDepth 100000 in
theorem lvcalls_all (t:File) (A:Option Addr) (c:Nat) (Al:Option Addr) (cl:Nat) (l:List Int) (AL:Option Addr) (cL:Nat) (L:List Step) (w:World) (ht:FileK.C w A t.files.length t.files) (hc:t.files.length≤c) (hbt:t.bulk≤1048576) (hl:Kd.C (Kd.int .i64) w Al l.length l) (hcl:l.length≤cl) (hll:l.length≤1048576) (hL:StepK.C w AL L.length L) (hcL:L.length≤cL) (hsl:stepsB L≤1048576) :
  Calls Tryz.prog 3 #[fileV t A c,.slice Al l.length cl,.slice AL L.length cL] w fun e w'=>e=.returned (.bool true)∧Below w.heap.size w w':=by
 have HT:=Lib.hid ht
 have HL:=Lib.hid hL
 have HF:=Lib.hid hl
 have HSL:=Lib.hid hsl
 have hlen:=steps_len L
 have hLb:L.length≤209715:=by omega
 have hax:=below_alloc (Below.refl w.heap.size w) (.cells (fc t A c) 25)
 have HX0:=Lib.hid (blk_new w (.cells (fc t A c) 25))
 have HAX:=Lib.hid hax
 obtain ⟨l0,l1,l2,l3⟩:=c4A HX0.out
 clear ht hL hl hsl hax
 go_enter Tryz.func3,Tryz.ntmps3
 unfold fileV
 go_wp2_with fail
 clear l0 l1 l2 l3
 generalize (w.alloc (.cells (fc t A c) 25))=w1 at *
 have hs1:=HAX.out.size
 have hx1:=blk_lt HX0.out
 refine (rcopyC t A c w1 (by omega) (Kd.C_below HT.out HAX.out) hc).mono ?_
 rintro e w2 ⟨A2,c2,rfl,hc2,hC2,hq2⟩
 have hb2:=HAX.out.trans (hq2.mono hs1)
 have hs2:=hq2.size
 have HX2:=Lib.hid ((hq2.block _ hx1).trans HX0.out)
 have hax3:=below_alloc (Below.refl w2.heap.size w2) (.cells (fc t A2 c2) 25)
 have HG3:=Lib.hid (blk_new w2 (.cells (fc t A2 c2) 25))
 have HAX3:=Lib.hid hax3
 have hs3:(w2.alloc (.cells (fc t A2 c2) 25)).heap.size=w2.heap.size+1:=by simp
 have HC3:=Lib.hid (Kd.C_below hC2 hax3)
 obtain ⟨l0,l1,l2,l3⟩:=c4A HG3.out
 clear hC2
 go_wp2_with fail
 clear l0 l1 l2 l3
 generalize (w2.alloc (.cells (fc t A2 c2) 25))=W3 at *
 have hb3:=hb2.trans (HAX3.out.mono hb2.size)
 have HX3:=Lib.hid ((HAX3.out.block _ (blk_lt HX2.out)).trans HX2.out)
 refine (show Calls Tryz.prog 6 #[.agg (fc t A2 c2),.slice Al l.length cl] W3 _ from new_in t A2 c2 Al cl l W3 HC3.out hc2 (by omega) (Kd.C_below HF.out hb3) hcl (by omega)).mono ?_
 rintro e w4 h
 have hq4:Below W3.heap.size W3 w4:=by
  rcases h with h | ⟨_,g,_,_,h⟩
  ·exact h.2.2
  ·exact h
 have hb4:=hb3.trans (hq4.mono hb3.size)
 have hs4:=hq4.size
 have HX4:=Lib.hid ((hq4.block _ (blk_lt HX3.out)).trans HX3.out)
 rcases h with ⟨hr,rfl,_⟩ | ⟨hr,g1,rfl,hf,_⟩
 ·obtain ⟨l0,l1,l2,l3⟩:=c4A HX4.out
  go_wp2_with fail
  clear l0 l1 l2 l3
  refine (show Calls Tryz.prog 7 #[.agg (fc t A c)] w4 _ from rright_calls t A c w4 (by omega) (Kd.C_below HT.out hb4) hc).mono ?_
  rintro e w5 ⟨rfl,hq5⟩
  rw [hr]
  go_wp2_with fail
  go_ret
  exact ⟨rfl,hb4.trans (hq5.mono hb4.size)⟩
 have HFa:=Lib.hid hf
 clear hf
 obtain ⟨l0,l1,l2,l3⟩:=c4A HX4.out
 go_wp2_with fail
 clear l0 l1 l2 l3
 refine (show Calls Tryz.prog 7 #[.agg (fc t A c)] w4 _ from rright_calls t A c w4 (by omega) (Kd.C_below HT.out hb4) hc).mono ?_
 rintro e w5 ⟨rfl,hq5⟩
 rw [hr]
 have hb5:=hb4.trans (hq5.mono hb4.size)
 have hs5:=hq5.size
 have HX5:=Lib.hid ((hq5.block _ (blk_lt HX4.out)).trans HX4.out)
 have HB35:=Lib.hid (hq4.trans (hq5.mono hs4))
 have hax6:=below_alloc (Below.refl w5.heap.size w5) (.cells #[.string t.name,.int .u8 t.kind,.string t.data,.slice A t.files.length c,.slice Al l.length cl,.slice none 0 0] 36)
 have HR6:=Lib.hid (blk_new w5 (.cells #[.string t.name,.int .u8 t.kind,.string t.data,.slice A t.files.length c,.slice Al l.length cl,.slice none 0 0] 36))
 have HAX6:=Lib.hid hax6
 have hs6:(w5.alloc (.cells #[.string t.name,.int .u8 t.kind,.string t.data,.slice A t.files.length c,.slice Al l.length cl,.slice none 0 0] 36)).heap.size=w5.heap.size+1:=by simp
 have HF5:=Lib.hid (HFa.out.below hq5)
 have hwz:=hb3.size
 obtain ⟨l0,l1,l2,l3⟩:=c4A HX5.out
 clear hax6 HFa
 go_wp2_with fail
 clear l0 l1 l2 l3
 generalize (w5.alloc (.cells #[.string t.name,.int .u8 t.kind,.string t.data,.slice A t.files.length c,.slice Al l.length cl,.slice none 0 0] 36))=w6 at *
 have hsl:=HSL.out
 have HI0:Hid (CallsI W3 g1 w5.heap.size t l Al cl L 0 w6):=Lib.hid (by
  refine ⟨_,⟨t,[],l⟩,A,c,none,0,HF5.out.below HAX6.out,fun j h=>⟨h.1,by have:=h.2;omega⟩,fun h=>by have:=h.2;omega,rfl,hr,by show t.bulk≤_;omega,Nat.le_refl _,fun x hx=>(by cases hx),HR6.out,hc,Nat.le_refl _,?_,Kd.F_nil _ _ _,HB35.out.trans (HAX6.out.mono (by omega))⟩
  exact Kd.F_mono (Kd.F_below (Kd.F_below (Kd.C_F heap_file HT.out) hb5) HAX6.out) fun j hj=>⟨fun h=>by have:=h.1;omega,by omega⟩)
 clear hsl hq2 hq4 hq5 hax3 HX0 HX2 HX4 HF5 HR6 HB35
 go_loopw [12] (fun i wr=>∃ k:Nat,k≤L.length∧i=.int .i64 k∧Hid (CallsI W3 g1 w5.heap.size t l Al cl L k wr)) (fun i _=>L.length - (RowKit.intOf i).toNat)
 case atStart=>exact ⟨0,by omega,rfl,HI0⟩
 case round =>
  clear HI0
  obtain ⟨k,hk,rfl,HI⟩:=hrel
  obtain ⟨wo,rfl⟩:∃ W,W=wr:=⟨_,rfl⟩
  have hbase:Below W3.heap.size W3 wo:=by
   obtain ⟨_,_,_,_,_,_,_,_,_,_,_,_,_,_,_,_,_,_,_,hb⟩:=HI.out
   exact hb
  have hbw:Below w.heap.size w wo:=hb3.trans (hbase.mono hwz)
  by_cases q1:k<L.length
  ·obtain ⟨ad,A1,c1,B1,d1,rfl,r0,r1,r2,r3,hc1,HPw,hd1,HQw⟩:=step_at HL.out (Below.refl w.heap.size w) k q1
   have HST:=Lib.hid (fun W (h:Below w.heap.size w W)=>(⟨(h.cell (World.block_lt_of_cell? w _ r0)).trans r0,(h.cell (World.block_lt_of_cell? w _ r1)).trans r1,(h.cell (World.block_lt_of_cell? w _ r2)).trans r2,(h.cell (World.block_lt_of_cell? w _ r3)).trans r3⟩:W.cell? (ad.add (k * 4))=some (.int .u8 L[k].kind)∧W.cell? ⟨(ad.add (k * 4)).block,(ad.add (k * 4)).off+1,none⟩=some (.slice A1 L[k].path.length c1)∧W.cell? ⟨(ad.add (k * 4)).block,(ad.add (k * 4)).off+2,none⟩=some (.slice B1 L[k].dest.length d1)∧W.cell? ⟨(ad.add (k * 4)).block,(ad.add (k * 4)).off+3,none⟩=some (.string L[k].data)))
   obtain ⟨p0,p1,p2,p3⟩:=HST.out _ hbw
   have HP:=Kd.F_below HPw hbw
   have HQ:=Kd.F_below HQw hbw
   clear r0 r1 r2 r3 HPw HQw
   have hsb:=stepB_mem (List.getElem_mem q1)
   have hsk:=calls_steps_le L k
   have HTK:=Lib.hid (calls_steps_take q1)
   generalize L[k]=x at *
   have HP0:=Lib.hid HP
   have HQ0:=Lib.hid HQ
   have hsl:=HSL.out
   have hxp:P.sumP x.path≤1048576:=by unfold stepB at hsb;have:P.sumP x.path=sumP x.path:=rfl;omega
   have hxq:P.sumP x.dest≤1048576:=by unfold stepB at hsb;have:P.sumP x.dest=sumP x.dest:=rfl;omega
   have hxd:x.data.size≤1048576:=by unfold stepB at hsb;omega
   have hxs:x.data.size+5≤stepB x:=by unfold stepB;omega
   have g1':(k:Int)<(L.length:Int):=by omega
   clear HP HQ hsl
   go_wp2_with fail
   refine (isCall_calls x A1 B1 c1 d1 wo).mono ?_
   rintro e v4 ⟨rfl,hq4⟩
   have HR4:=Lib.hid hq4
   obtain ⟨b,hbb⟩:∃ b,oneOf x=b:=⟨_,rfl⟩
   rw [hbb]
   cases b
   ·have HN:=Lib.hid (HI.out.next HR4.out (by have:=HTK.out;omega))
    clear hbb
    go_wp2_with fail
    go_roundw
    case rel=>exact ⟨k+1,by omega,by go_num,HN⟩
    case measure=>simp [RowKit.intOf];omega
   ·have HOX:=Lib.hid hbb
    clear hbb
    obtain ⟨S,⟨ft,fr,ff⟩,Ar,cr,At,ct,h1,h2,h3,h4,h5,h6,h7,h8,h9,h10,h11,h12,h13,h14⟩:=HI.out
    simp only at h4 h5 h6 h7 h8 h10 h11 h12 h13
    subst h4
    have hsl:=HSL.out
    have hs4':=HR4.out.size
    have H1:=Lib.hid (h1.below HR4.out)
    have H5:=Lib.hid h5
    have H8:=Lib.hid h8
    have H9:=Lib.hid ((HR4.out.block _ (blk_lt h9)).trans h9)
    have H12:=Lib.hid (Kd.F_below h12 HR4.out)
    have H13:=Lib.hid (Kd.F_below h13 HR4.out)
    have hfb:ft.bulk≤100000000:=by omega
    have hfl:fr.length≤900000:=by omega
    have hb4':=hbw.trans (HR4.out.mono hbw.size)
    have HB4:=Lib.hid hb4'
    have hgrl:=blk_lt H9.out
    have mv:∀ {p:Addr} {v:Value},wo.cell? p=some v→v4.cell? p=some v:=fun h=>(HR4.out.cell (World.block_lt_of_cell? wo _ h)).trans h
    have p0':=mv p0
    have p1':=mv p1
    have p2':=mv p2
    have p3':=mv p3
    have HP4:=Lib.hid (Kd.F_below HP0.out HR4.out)
    have HQ4:=Lib.hid (Kd.F_below HQ0.out HR4.out)
    have hwo:=hbw.size
    clear h1 h5 h8 h9 h12 h13 h14 hsl mv HI p0 p1 p2 p3 hb4'
    obtain ⟨⟨f',a,why⟩,hdo⟩:∃ r,doV ⟨ft,fr,ff⟩ x=r:=⟨_,rfl⟩
    have HDO:=Lib.hid hdo
    have hc5:=do_in v4 g1 S ⟨ft,fr,ff⟩ H1.out hfb (by show fr.length≤_;omega) x A1 B1 c1 d1 (Kd.F_mono HP4.out fun j hj hS=>by have:=(h2 j hS).1;omega) hc1 (by omega) (Kd.F_mono HQ4.out fun j hj hS=>by have:=(h2 j hS).1;omega) hd1 (by omega) (by omega)
    rw [hdo] at hc5
    have HC5:=Lib.hid hc5
    clear hc5 hdo
    go_wp2_with fail
    refine HC5.out.mono ?_
    clear HC5
    rintro e v5 ⟨rfl,hf5,ho5⟩
    have hs5':=ho5.size
    have HF5:=Lib.hid hf5
    have hnr:¬ S w5.heap.size:=h3
    have h9b:=(ho5.block _ (by omega) hnr).trans H9.out
    have hbb5:Below w.heap.size w v5:=HB4.out.trans (ho5.below (B:=w.heap.size) (by omega) (fun j hj hS=>by have:=(h2 j hS).1;omega))
    have hax:=below_alloc (Below.refl v5.heap.size v5) (.cells #[.int .u8 a.kind,.int .i64 a.size,.string a.data] 46)
    have HA6:=Lib.hid (blk_new v5 (.cells #[.int .u8 a.kind,.int .i64 a.size,.string a.data] 46))
    have hk6:∀ j,j<v4.heap.size→¬ S j→(v5.alloc (.cells #[.int .u8 a.kind,.int .i64 a.size,.string a.data] 46)).heap[j]? = v4.heap[j]? := fun j hj hS=>(hax.block j (by omega)).trans (ho5.block j hj hS)
    have H96:=Lib.hid ((hax.block _ (blk_lt h9b)).trans h9b)
    have HB6:=Lib.hid (hbb5.trans (hax.mono hbb5.size))
    have HAX6:=Lib.hid hax
    have hs6':(v5.alloc (.cells #[.int .u8 a.kind,.int .i64 a.size,.string a.data] 46)).heap.size=v5.heap.size+1:=by simp
    have H126:=Lib.hid (Kd.F_mono (Kd.F_step (Kd.F_bound H12.out) (W1:=v5.alloc (.cells #[.int .u8 a.kind,.int .i64 a.size,.string a.data] 46)) fun j hj hl=>hk6 j hl hj.1.1) (ok':=fun j=>(¬ Grown S v4 v5 j∧j≠w5.heap.size)∧j<v5.heap.size+1) (fun j hj=>⟨⟨by rintro (h | h);exact hj.1.1 h;have:=hj.2;omega,hj.1.2⟩,by have:=hj.2;omega⟩))
    have H136:=Lib.hid (Kd.F_mono (Kd.F_step (Kd.F_bound H13.out) (W1:=v5.alloc (.cells #[.int .u8 a.kind,.int .i64 a.size,.string a.data] 46)) fun j hj hl=>hk6 j hl hj.1.1) (ok':=fun j=>(¬ Grown S v4 v5 j∧j≠w5.heap.size)∧j<v5.heap.size+1) (fun j hj=>⟨⟨by rintro (h | h);exact hj.1.1 h;have:=hj.2;omega,hj.1.2⟩,by have:=hj.2;omega⟩))
    have HP6:=Lib.hid (Kd.F_step HP4.out (W1:=v5.alloc (.cells #[.int .u8 a.kind,.int .i64 a.size,.string a.data] 46)) fun j hj hl=>hk6 j hl (fun hS=>by have:=(h2 j hS).1;omega))
    have HQ6:=Lib.hid (Kd.F_step HQ4.out (W1:=v5.alloc (.cells #[.int .u8 a.kind,.int .i64 a.size,.string a.data] 46)) fun j hj hl=>hk6 j hl (fun hS=>by have:=(h2 j hS).1;omega))
    have HG2:Hid (∀ k,v5.heap.size+1≤k→(¬ Grown S v4 v5 k∧k≠w5.heap.size)):=Lib.hid (fun k hk=>⟨by rintro (h | h);have:=(h2 k h).2;omega;omega,by omega⟩)
    have hxc1:=hc1
    clear hc1 hk6 hax hf5 hq4 HP4 HQ4 H12 H13 p0' p1' p2' p3'
    go_wp2_with fail
    refine start_ (n:=15) (S:=fun w'=>w'.heap[w5.heap.size]? = some (.cells #[.string ft.name,.int .u8 ft.kind,.string ft.data,.slice Ar ft.files.length cr,.slice Al ff.length cl,.slice At fr.length ct] 36 (0,0))∧w'.cell? (ad.add (k * 4))=some (.int .u8 x.kind)∧w'.cell? ⟨(ad.add (k * 4)).block,(ad.add (k * 4)).off+1,none⟩=some (.slice A1 x.path.length c1)∧w'.cell? ⟨(ad.add (k * 4)).block,(ad.add (k * 4)).off+2,none⟩=some (.slice B1 x.dest.length d1)∧w'.cell? ⟨(ad.add (k * 4)).block,(ad.add (k * 4)).off+3,none⟩=some (.string x.data)) (ds:=[]) (bmE 15 0) (by kernel_rfl) rfl rfl ⟨((bdrew (Below.refl (v5.alloc (.cells #[.int .u8 a.kind,.int .i64 a.size,.string a.data] 46)).heap.size (v5.alloc (.cells #[.int .u8 a.kind,.int .i64 a.size,.string a.data] 46)))).block _ (blk_lt H96.out)).trans H96.out,HST.out _ (HB6.out.trans ((bdrew (Below.refl (v5.alloc (.cells #[.int .u8 a.kind,.int .i64 a.size,.string a.data] 46)).heap.size (v5.alloc (.cells #[.int .u8 a.kind,.int .i64 a.size,.string a.data] 46)))).mono HB6.out.size))⟩ (fun hHeld => ?_)
    refine pA 1 68 (bmE 15 2) ?_
    refine pA 2 69 (bmE 15 6) ?_
    refine pA 3 70 (bmE 15 14) ?_
    refine tA 0 67 (bmE 15 15) hHeld ?_ (hy:=by
     rintro w' ⟨s0,s1⟩
     have q0:=cell_of (j:=0) s0 rfl
     have q1:=cell_of (j:=1) s0 rfl
     have q2:=cell_of (j:=2) s0 rfl
     have q3:=cell_of (j:=3) s0 rfl
     have q4:=cell_of (j:=4) s0 rfl
     have q5:=cell_of (j:=5) s0 rfl
     go_simp
     with_reducible rfl)
    refine tA 4 71 (bmE 15 31) hHeld ?_ (hy:=by
     rintro w' ⟨s0,s1⟩
     obtain ⟨y0,y1,y2,y3⟩:=s1
     go_simp
     with_reducible rfl)
    refine join_ (σ:=(Option Addr×Nat×Option Addr×Nat×Nat×Nat)×Nat×Nat) 3 (bmE 15 4095) (fun s=>match s with | ((Ar2,cr2,At2,ct2,lo,hi),gs,gb)=>[(72,.tuple #[.agg #[.string f'.tree.name,.int .u8 f'.tree.kind,.string f'.tree.data,.slice Ar2 f'.tree.files.length cr2,.slice Al ff.length cl,.slice At2 f'.trace.length ct2],.agg #[.int .u8 a.kind,.int .i64 a.size,.string a.data],.int .i64 why]),(66,.tuple #[.agg #[.string f'.tree.name,.int .u8 f'.tree.kind,.string f'.tree.data,.slice Ar2 f'.tree.files.length cr2,.slice Al ff.length cl,.slice At2 f'.trace.length ct2],.agg #[.int .u8 a.kind,.int .i64 a.size,.string a.data],.int .i64 why]),(73,.agg #[.string f'.tree.name,.int .u8 f'.tree.kind,.string f'.tree.data,.slice Ar2 f'.tree.files.length cr2,.slice Al ff.length cl,.slice At2 f'.trace.length ct2]),(74,.agg #[.int .u8 a.kind,.int .i64 a.size,.string a.data]),(75,.int .i64 why),(15,.pointer (some ⟨gs,0,none⟩)),(16,.pointer (some ⟨gb,0,none⟩))]) (fun s W=>match s with | ((Ar2,cr2,At2,ct2,lo,hi),gs,gb)=>Below (v5.alloc (.cells #[.int .u8 a.kind,.int .i64 a.size,.string a.data] 46)).heap.size (v5.alloc (.cells #[.int .u8 a.kind,.int .i64 a.size,.string a.data] 46)) W∧(v5.alloc (.cells #[.int .u8 a.kind,.int .i64 a.size,.string a.data] 46)).heap.size≤gs∧W.heap[gs]? = some (.cells #[.string ⟨#[]⟩,.int .u8 0,.string ⟨#[]⟩,.slice none 0 0,.slice none 0 0,.slice none 0 0] 36 (0,0))∧(v5.alloc (.cells #[.int .u8 a.kind,.int .i64 a.size,.string a.data] 46)).heap.size≤gb∧W.heap[gb]? = some (.cells #[.int .u8 0,.int .i64 0,.string ⟨#[]⟩] 46 (0,0))∧gs≠gb∧f'.tree.files.length≤cr2∧f'.trace.length≤ct2∧(v5.alloc (.cells #[.int .u8 a.kind,.int .i64 a.size,.string a.data] 46)).heap.size≤lo∧hi≤W.heap.size∧Kd.F FileK W (fun j=>((¬ Grown S v4 v5 j∧j≠w5.heap.size)∧j<v5.heap.size+1)∨(lo≤j∧j<hi)) Ar2 f'.tree.files.length f'.tree.files∧Kd.F CallK W (fun j=>((¬ Grown S v4 v5 j∧j≠w5.heap.size)∧j<v5.heap.size+1)∨(lo≤j∧j<hi)) At2 f'.trace.length f'.trace∧(gs<lo∨hi≤gs)∧(gb<lo∨hi≤gb)) ?_ ?_
    rotate_left
    ·intro hc0
     refine join_ (σ:=(Option Addr×Nat×Option Addr×Nat×Nat×Nat)×Nat) 4 (bmE 15 3071) (fun s=>match s with | ((Ar2,cr2,At2,ct2,lo,hi),gb)=>[(72,.tuple #[.agg #[.string f'.tree.name,.int .u8 f'.tree.kind,.string f'.tree.data,.slice Ar2 f'.tree.files.length cr2,.slice Al ff.length cl,.slice At2 f'.trace.length ct2],.agg #[.int .u8 a.kind,.int .i64 a.size,.string a.data],.int .i64 why]),(66,.tuple #[.agg #[.string f'.tree.name,.int .u8 f'.tree.kind,.string f'.tree.data,.slice Ar2 f'.tree.files.length cr2,.slice Al ff.length cl,.slice At2 f'.trace.length ct2],.agg #[.int .u8 a.kind,.int .i64 a.size,.string a.data],.int .i64 why]),(73,.agg #[.string f'.tree.name,.int .u8 f'.tree.kind,.string f'.tree.data,.slice Ar2 f'.tree.files.length cr2,.slice Al ff.length cl,.slice At2 f'.trace.length ct2]),(74,.agg #[.int .u8 a.kind,.int .i64 a.size,.string a.data]),(75,.int .i64 why),(16,.pointer (some ⟨gb,0,none⟩))]) (fun s W=>match s with | ((Ar2,cr2,At2,ct2,lo,hi),gb)=>Below (v5.alloc (.cells #[.int .u8 a.kind,.int .i64 a.size,.string a.data] 46)).heap.size (v5.alloc (.cells #[.int .u8 a.kind,.int .i64 a.size,.string a.data] 46)) W∧(v5.alloc (.cells #[.int .u8 a.kind,.int .i64 a.size,.string a.data] 46)).heap.size≤gb∧W.heap[gb]? = some (.cells #[.int .u8 0,.int .i64 0,.string ⟨#[]⟩] 46 (0,0))∧f'.tree.files.length≤cr2∧f'.trace.length≤ct2∧(v5.alloc (.cells #[.int .u8 a.kind,.int .i64 a.size,.string a.data] 46)).heap.size≤lo∧hi≤W.heap.size∧Kd.F FileK W (fun j=>((¬ Grown S v4 v5 j∧j≠w5.heap.size)∧j<v5.heap.size+1)∨(lo≤j∧j<hi)) Ar2 f'.tree.files.length f'.tree.files∧Kd.F CallK W (fun j=>((¬ Grown S v4 v5 j∧j≠w5.heap.size)∧j<v5.heap.size+1)∨(lo≤j∧j<hi)) At2 f'.trace.length f'.trace∧(gb<lo∨hi≤gb)) ?_ ?_
     ·rintro ⟨⟨Ar2,cr2,At2,ct2,lo,hi⟩,gb⟩ V hF
      obtain ⟨hb,hl11,hz11,hcr2,hct2,hlo,hhi,hFr,hTr,hjb⟩:=hF
      refine uA ?_
      refine eA 10 15 (bmE 15 4095) (fun K hK => ?_)
      have ha:=below_alloc (Below.refl V.heap.size V) (.cells #[.string ⟨#[]⟩,.int .u8 0,.string ⟨#[]⟩,.slice none 0 0,.slice none 0 0,.slice none 0 0] 36)
      have hbn:=below_alloc hb (.cells #[.string ⟨#[]⟩,.int .u8 0,.string ⟨#[]⟩,.slice none 0 0,.slice none 0 0,.slice none 0 0] 36)
      refine vA ?_
      refine hK.out _ _ (⟨(hbn.block _ (blk_lt H96.out)).trans H96.out,HST.out _ (HB6.out.trans (hbn.mono HB6.out.size))⟩) (fun hHeld => ?_)
      refine nA 15 ?_
      refine jA (hc0 ((Ar2,cr2,At2,ct2,lo,hi),V.heap.size,gb) _ (⟨hbn,hb.size,blk_new V (.cells #[.string ⟨#[]⟩,.int .u8 0,.string ⟨#[]⟩,.slice none 0 0,.slice none 0 0,.slice none 0 0] 36),hl11,(ha.block _ (blk_lt hz11)).trans hz11,Ne.symm (Nat.ne_of_lt (blk_lt hz11)),hcr2,hct2,hlo,Nat.le_trans hhi ha.size,Kd.F_below hFr ha,Kd.F_below hTr ha,.inr hhi,hjb⟩))
     intro hc1
     refine join_ (σ:=(Option Addr×Nat×Option Addr×Nat×Nat×Nat)×Nat) 4 (bmE 15 2047) (fun s=>match s with | ((Ar2,cr2,At2,ct2,lo,hi),gs)=>[(72,.tuple #[.agg #[.string f'.tree.name,.int .u8 f'.tree.kind,.string f'.tree.data,.slice Ar2 f'.tree.files.length cr2,.slice Al ff.length cl,.slice At2 f'.trace.length ct2],.agg #[.int .u8 a.kind,.int .i64 a.size,.string a.data],.int .i64 why]),(66,.tuple #[.agg #[.string f'.tree.name,.int .u8 f'.tree.kind,.string f'.tree.data,.slice Ar2 f'.tree.files.length cr2,.slice Al ff.length cl,.slice At2 f'.trace.length ct2],.agg #[.int .u8 a.kind,.int .i64 a.size,.string a.data],.int .i64 why]),(73,.agg #[.string f'.tree.name,.int .u8 f'.tree.kind,.string f'.tree.data,.slice Ar2 f'.tree.files.length cr2,.slice Al ff.length cl,.slice At2 f'.trace.length ct2]),(74,.agg #[.int .u8 a.kind,.int .i64 a.size,.string a.data]),(75,.int .i64 why),(15,.pointer (some ⟨gs,0,none⟩))]) (fun s W=>match s with | ((Ar2,cr2,At2,ct2,lo,hi),gs)=>Below (v5.alloc (.cells #[.int .u8 a.kind,.int .i64 a.size,.string a.data] 46)).heap.size (v5.alloc (.cells #[.int .u8 a.kind,.int .i64 a.size,.string a.data] 46)) W∧(v5.alloc (.cells #[.int .u8 a.kind,.int .i64 a.size,.string a.data] 46)).heap.size≤gs∧W.heap[gs]? = some (.cells #[.string ⟨#[]⟩,.int .u8 0,.string ⟨#[]⟩,.slice none 0 0,.slice none 0 0,.slice none 0 0] 36 (0,0))∧f'.tree.files.length≤cr2∧f'.trace.length≤ct2∧(v5.alloc (.cells #[.int .u8 a.kind,.int .i64 a.size,.string a.data] 46)).heap.size≤lo∧hi≤W.heap.size∧Kd.F FileK W (fun j=>((¬ Grown S v4 v5 j∧j≠w5.heap.size)∧j<v5.heap.size+1)∨(lo≤j∧j<hi)) Ar2 f'.tree.files.length f'.tree.files∧Kd.F CallK W (fun j=>((¬ Grown S v4 v5 j∧j≠w5.heap.size)∧j<v5.heap.size+1)∨(lo≤j∧j<hi)) At2 f'.trace.length f'.trace∧(gs<lo∨hi≤gs)) ?_ ?_
     ·rintro ⟨⟨Ar2,cr2,At2,ct2,lo,hi⟩,gs⟩ V hF
      obtain ⟨hb,hl10,hz10,hcr2,hct2,hlo,hhi,hFr,hTr,hjs⟩:=hF
      refine uA ?_
      refine eA 11 16 (bmE 15 4095) (fun K hK => ?_)
      have ha:=below_alloc (Below.refl V.heap.size V) (.cells #[.int .u8 0,.int .i64 0,.string ⟨#[]⟩] 46)
      have hbn:=below_alloc hb (.cells #[.int .u8 0,.int .i64 0,.string ⟨#[]⟩] 46)
      refine vA ?_
      refine hK.out _ _ (⟨(hbn.block _ (blk_lt H96.out)).trans H96.out,HST.out _ (HB6.out.trans (hbn.mono HB6.out.size))⟩) (fun hHeld => ?_)
      refine nA 16 ?_
      refine jA (hc0 ((Ar2,cr2,At2,ct2,lo,hi),gs,V.heap.size) _ (⟨hbn,hl10,(ha.block _ (blk_lt hz10)).trans hz10,hb.size,blk_new V (.cells #[.int .u8 0,.int .i64 0,.string ⟨#[]⟩] 46),Nat.ne_of_lt (blk_lt hz10),hcr2,hct2,hlo,Nat.le_trans hhi ha.size,Kd.F_below hFr ha,Kd.F_below hTr ha,hjs,.inr hhi⟩))
     intro hc2
     refine join_ (σ:=(Option Addr×Nat×Option Addr×Nat×Nat×Nat)) 5 (bmE 15 1023) (fun s=>match s with | (Ar2,cr2,At2,ct2,lo,hi)=>[(72,.tuple #[.agg #[.string f'.tree.name,.int .u8 f'.tree.kind,.string f'.tree.data,.slice Ar2 f'.tree.files.length cr2,.slice Al ff.length cl,.slice At2 f'.trace.length ct2],.agg #[.int .u8 a.kind,.int .i64 a.size,.string a.data],.int .i64 why]),(66,.tuple #[.agg #[.string f'.tree.name,.int .u8 f'.tree.kind,.string f'.tree.data,.slice Ar2 f'.tree.files.length cr2,.slice Al ff.length cl,.slice At2 f'.trace.length ct2],.agg #[.int .u8 a.kind,.int .i64 a.size,.string a.data],.int .i64 why]),(73,.agg #[.string f'.tree.name,.int .u8 f'.tree.kind,.string f'.tree.data,.slice Ar2 f'.tree.files.length cr2,.slice Al ff.length cl,.slice At2 f'.trace.length ct2]),(74,.agg #[.int .u8 a.kind,.int .i64 a.size,.string a.data]),(75,.int .i64 why)]) (fun s W=>match s with | (Ar2,cr2,At2,ct2,lo,hi)=>Below (v5.alloc (.cells #[.int .u8 a.kind,.int .i64 a.size,.string a.data] 46)).heap.size (v5.alloc (.cells #[.int .u8 a.kind,.int .i64 a.size,.string a.data] 46)) W∧f'.tree.files.length≤cr2∧f'.trace.length≤ct2∧(v5.alloc (.cells #[.int .u8 a.kind,.int .i64 a.size,.string a.data] 46)).heap.size≤lo∧hi≤W.heap.size∧Kd.F FileK W (fun j=>((¬ Grown S v4 v5 j∧j≠w5.heap.size)∧j<v5.heap.size+1)∨(lo≤j∧j<hi)) Ar2 f'.tree.files.length f'.tree.files∧Kd.F CallK W (fun j=>((¬ Grown S v4 v5 j∧j≠w5.heap.size)∧j<v5.heap.size+1)∨(lo≤j∧j<hi)) At2 f'.trace.length f'.trace) ?_ ?_
     ·rintro ⟨Ar2,cr2,At2,ct2,lo,hi⟩ V hF
      obtain ⟨hb,hcr2,hct2,hlo,hhi,hFr,hTr⟩:=hF
      refine uA ?_
      refine two_ (i:=10) (j:=11) (Ni:=some 15) (Nj:=some 16) (bmE 15 2047) (bmE 15 3071) rfl rfl rfl rfl (by kernel_rfl) (by decide) (by decide) (fun K hK => ?_) (fun K hK => ?_)
      ·have ha:=below_alloc (Below.refl V.heap.size V) (.cells #[.string ⟨#[]⟩,.int .u8 0,.string ⟨#[]⟩,.slice none 0 0,.slice none 0 0,.slice none 0 0] 36)
       have hbn:=below_alloc hb (.cells #[.string ⟨#[]⟩,.int .u8 0,.string ⟨#[]⟩,.slice none 0 0,.slice none 0 0,.slice none 0 0] 36)
       refine vA ?_
       refine hK.out _ _ (⟨(hbn.block _ (blk_lt H96.out)).trans H96.out,HST.out _ (HB6.out.trans (hbn.mono HB6.out.size))⟩) (fun hHeld => ?_)
       refine nA 15 ?_
       refine jA (hc2 ((Ar2,cr2,At2,ct2,lo,hi),V.heap.size) _ (⟨hbn,hb.size,blk_new V (.cells #[.string ⟨#[]⟩,.int .u8 0,.string ⟨#[]⟩,.slice none 0 0,.slice none 0 0,.slice none 0 0] 36),hcr2,hct2,hlo,Nat.le_trans hhi ha.size,Kd.F_below hFr ha,Kd.F_below hTr ha,.inr hhi⟩))
      ·have ha:=below_alloc (Below.refl V.heap.size V) (.cells #[.int .u8 0,.int .i64 0,.string ⟨#[]⟩] 46)
       have hbn:=below_alloc hb (.cells #[.int .u8 0,.int .i64 0,.string ⟨#[]⟩] 46)
       refine vA ?_
       refine hK.out _ _ (⟨(hbn.block _ (blk_lt H96.out)).trans H96.out,HST.out _ (HB6.out.trans (hbn.mono HB6.out.size))⟩) (fun hHeld => ?_)
       refine nA 16 ?_
       refine jA (hc1 ((Ar2,cr2,At2,ct2,lo,hi),V.heap.size) _ (⟨hbn,hb.size,blk_new V (.cells #[.int .u8 0,.int .i64 0,.string ⟨#[]⟩] 46),hcr2,hct2,hlo,Nat.le_trans hhi ha.size,Kd.F_below hFr ha,Kd.F_below hTr ha,.inr hhi⟩))
     intro hc3
     refine join_ (σ:=Nat×Nat) 8 (bmE 15 3103) (fun s=>match s with | (gs,gb)=>[(15,.pointer (some ⟨gs,0,none⟩)),(16,.pointer (some ⟨gb,0,none⟩))]) (fun s W=>match s with | (gs,gb)=>Below (v5.alloc (.cells #[.int .u8 a.kind,.int .i64 a.size,.string a.data] 46)).heap.size (v5.alloc (.cells #[.int .u8 a.kind,.int .i64 a.size,.string a.data] 46)) W∧(v5.alloc (.cells #[.int .u8 a.kind,.int .i64 a.size,.string a.data] 46)).heap.size≤gs∧W.heap[gs]? = some (.cells #[.string ⟨#[]⟩,.int .u8 0,.string ⟨#[]⟩,.slice none 0 0,.slice none 0 0,.slice none 0 0] 36 (0,0))∧(v5.alloc (.cells #[.int .u8 a.kind,.int .i64 a.size,.string a.data] 46)).heap.size≤gb∧W.heap[gb]? = some (.cells #[.int .u8 0,.int .i64 0,.string ⟨#[]⟩] 46 (0,0))∧gs≠gb) ?_ ?_
     ·rintro ⟨gs,gb⟩ V hF
      obtain ⟨hb,hl10,hz10,hl11,hz11,hd10_11⟩:=hF
      refine uA ?_
      refine eA 5 72 (bmE 15 3135) (fun K hK => ?_)
      refine gA Tryz.func10 #[.agg #[.string ft.name,.int .u8 ft.kind,.string ft.data,.slice Ar ft.files.length cr,.slice Al ff.length cl,.slice At fr.length ct],.agg #[.int .u8 x.kind,.slice A1 x.path.length c1,.slice B1 x.dest.length d1,.string x.data]] ?_
      refine (rDo_F ft Ar cr ff Al cl fr At ct x HOX.out A1 B1 c1 d1 _ (fun j=>(¬ Grown S v4 v5 j∧j≠w5.heap.size)∧j<v5.heap.size+1) (Kd.F_below H126.out hb) h10 hfb H5.out (Kd.C_below HF.out (HB6.out.trans (hb.mono HB6.out.size))) hcl (by omega) (Kd.F_below H136.out hb) h11 hfl H8.out (Kd.F_now (Kd.F_below HP6.out hb)) hxc1 (by omega) (Kd.F_now (Kd.F_below HQ6.out hb)) hd1 (by omega) (by omega) f' a why HDO.out).mono ?_
      rintro e w5 ⟨Ar2,cr2,At2,ct2,lo,hi,rfl,hcr2,hct2,hlo,hhi,hFr,hTr,hq5⟩
      refine ⟨_,rfl,?_⟩
      have hbn:=hb.trans (hq5.mono hb.size)
      refine hK.out _ _ (⟨(hbn.block _ (blk_lt H96.out)).trans H96.out,HST.out _ (HB6.out.trans (hbn.mono HB6.out.size))⟩) (fun hHeld => ?_)
      refine nA 72 ?_
      refine pA 6 66 (bmE 15 3199) ?_
      refine pA 7 73 (bmE 15 3327) ?_
      refine pA 8 74 (bmE 15 3583) ?_
      refine pA 9 75 (bmE 15 4095) ?_
      refine jA (hc0 ((Ar2,cr2,At2,ct2,lo,hi),gs,gb) _ (⟨hbn,hl10,(hq5.block _ (blk_lt hz10)).trans hz10,hl11,(hq5.block _ (blk_lt hz11)).trans hz11,hd10_11,hcr2,hct2,Nat.le_trans hb.size hlo,hhi,hFr,hTr,.inl (Nat.lt_of_lt_of_le (blk_lt hz10) hlo),.inl (Nat.lt_of_lt_of_le (blk_lt hz11) hlo)⟩))
     intro hc4
     refine join_ (σ:=Nat) 9 (bmE 15 1055) (fun s=>match s with | gs=>[(15,.pointer (some ⟨gs,0,none⟩))]) (fun s W=>match s with | gs=>Below (v5.alloc (.cells #[.int .u8 a.kind,.int .i64 a.size,.string a.data] 46)).heap.size (v5.alloc (.cells #[.int .u8 a.kind,.int .i64 a.size,.string a.data] 46)) W∧(v5.alloc (.cells #[.int .u8 a.kind,.int .i64 a.size,.string a.data] 46)).heap.size≤gs∧W.heap[gs]? = some (.cells #[.string ⟨#[]⟩,.int .u8 0,.string ⟨#[]⟩,.slice none 0 0,.slice none 0 0,.slice none 0 0] 36 (0,0))) ?_ ?_
     ·rintro gs V hF
      obtain ⟨hb,hl10,hz10⟩:=hF
      refine uA ?_
      refine two_ (i:=5) (j:=11) (Ni:=some 72) (Nj:=some 16) (bmE 15 1087) (bmE 15 3103) rfl rfl rfl rfl (by kernel_rfl) (by decide) (by decide) (fun K hK => ?_) (fun K hK => ?_)
      ·refine gA Tryz.func10 #[.agg #[.string ft.name,.int .u8 ft.kind,.string ft.data,.slice Ar ft.files.length cr,.slice Al ff.length cl,.slice At fr.length ct],.agg #[.int .u8 x.kind,.slice A1 x.path.length c1,.slice B1 x.dest.length d1,.string x.data]] ?_
       refine (rDo_F ft Ar cr ff Al cl fr At ct x HOX.out A1 B1 c1 d1 _ (fun j=>(¬ Grown S v4 v5 j∧j≠w5.heap.size)∧j<v5.heap.size+1) (Kd.F_below H126.out hb) h10 hfb H5.out (Kd.C_below HF.out (HB6.out.trans (hb.mono HB6.out.size))) hcl (by omega) (Kd.F_below H136.out hb) h11 hfl H8.out (Kd.F_now (Kd.F_below HP6.out hb)) hxc1 (by omega) (Kd.F_now (Kd.F_below HQ6.out hb)) hd1 (by omega) (by omega) f' a why HDO.out).mono ?_
       rintro e w5 ⟨Ar2,cr2,At2,ct2,lo,hi,rfl,hcr2,hct2,hlo,hhi,hFr,hTr,hq5⟩
       refine ⟨_,rfl,?_⟩
       have hbn:=hb.trans (hq5.mono hb.size)
       refine hK.out _ _ (⟨(hbn.block _ (blk_lt H96.out)).trans H96.out,HST.out _ (HB6.out.trans (hbn.mono HB6.out.size))⟩) (fun hHeld => ?_)
       refine nA 72 ?_
       refine pA 6 66 (bmE 15 1151) ?_
       refine pA 7 73 (bmE 15 1279) ?_
       refine pA 8 74 (bmE 15 1535) ?_
       refine pA 9 75 (bmE 15 2047) ?_
       refine jA (hc2 ((Ar2,cr2,At2,ct2,lo,hi),gs) _ (⟨hbn,hl10,(hq5.block _ (blk_lt hz10)).trans hz10,hcr2,hct2,Nat.le_trans hb.size hlo,hhi,hFr,hTr,.inl (Nat.lt_of_lt_of_le (blk_lt hz10) hlo)⟩))
      ·have ha:=below_alloc (Below.refl V.heap.size V) (.cells #[.int .u8 0,.int .i64 0,.string ⟨#[]⟩] 46)
       have hbn:=below_alloc hb (.cells #[.int .u8 0,.int .i64 0,.string ⟨#[]⟩] 46)
       refine vA ?_
       refine hK.out _ _ (⟨(hbn.block _ (blk_lt H96.out)).trans H96.out,HST.out _ (HB6.out.trans (hbn.mono HB6.out.size))⟩) (fun hHeld => ?_)
       refine nA 16 ?_
       refine jA (hc4 (gs,V.heap.size) _ (⟨hbn,hl10,(ha.block _ (blk_lt hz10)).trans hz10,hb.size,blk_new V (.cells #[.int .u8 0,.int .i64 0,.string ⟨#[]⟩] 46),Nat.ne_of_lt (blk_lt hz10)⟩))
     intro hc5
     refine join_ (σ:=Nat) 9 (bmE 15 2079) (fun s=>match s with | gb=>[(16,.pointer (some ⟨gb,0,none⟩))]) (fun s W=>match s with | gb=>Below (v5.alloc (.cells #[.int .u8 a.kind,.int .i64 a.size,.string a.data] 46)).heap.size (v5.alloc (.cells #[.int .u8 a.kind,.int .i64 a.size,.string a.data] 46)) W∧(v5.alloc (.cells #[.int .u8 a.kind,.int .i64 a.size,.string a.data] 46)).heap.size≤gb∧W.heap[gb]? = some (.cells #[.int .u8 0,.int .i64 0,.string ⟨#[]⟩] 46 (0,0))) ?_ ?_
     ·rintro gb V hF
      obtain ⟨hb,hl11,hz11⟩:=hF
      refine uA ?_
      refine two_ (i:=5) (j:=10) (Ni:=some 72) (Nj:=some 15) (bmE 15 2111) (bmE 15 3103) rfl rfl rfl rfl (by kernel_rfl) (by decide) (by decide) (fun K hK => ?_) (fun K hK => ?_)
      ·refine gA Tryz.func10 #[.agg #[.string ft.name,.int .u8 ft.kind,.string ft.data,.slice Ar ft.files.length cr,.slice Al ff.length cl,.slice At fr.length ct],.agg #[.int .u8 x.kind,.slice A1 x.path.length c1,.slice B1 x.dest.length d1,.string x.data]] ?_
       refine (rDo_F ft Ar cr ff Al cl fr At ct x HOX.out A1 B1 c1 d1 _ (fun j=>(¬ Grown S v4 v5 j∧j≠w5.heap.size)∧j<v5.heap.size+1) (Kd.F_below H126.out hb) h10 hfb H5.out (Kd.C_below HF.out (HB6.out.trans (hb.mono HB6.out.size))) hcl (by omega) (Kd.F_below H136.out hb) h11 hfl H8.out (Kd.F_now (Kd.F_below HP6.out hb)) hxc1 (by omega) (Kd.F_now (Kd.F_below HQ6.out hb)) hd1 (by omega) (by omega) f' a why HDO.out).mono ?_
       rintro e w5 ⟨Ar2,cr2,At2,ct2,lo,hi,rfl,hcr2,hct2,hlo,hhi,hFr,hTr,hq5⟩
       refine ⟨_,rfl,?_⟩
       have hbn:=hb.trans (hq5.mono hb.size)
       refine hK.out _ _ (⟨(hbn.block _ (blk_lt H96.out)).trans H96.out,HST.out _ (HB6.out.trans (hbn.mono HB6.out.size))⟩) (fun hHeld => ?_)
       refine nA 72 ?_
       refine pA 6 66 (bmE 15 2175) ?_
       refine pA 7 73 (bmE 15 2303) ?_
       refine pA 8 74 (bmE 15 2559) ?_
       refine pA 9 75 (bmE 15 3071) ?_
       refine jA (hc1 ((Ar2,cr2,At2,ct2,lo,hi),gb) _ (⟨hbn,hl11,(hq5.block _ (blk_lt hz11)).trans hz11,hcr2,hct2,Nat.le_trans hb.size hlo,hhi,hFr,hTr,.inl (Nat.lt_of_lt_of_le (blk_lt hz11) hlo)⟩))
      ·have ha:=below_alloc (Below.refl V.heap.size V) (.cells #[.string ⟨#[]⟩,.int .u8 0,.string ⟨#[]⟩,.slice none 0 0,.slice none 0 0,.slice none 0 0] 36)
       have hbn:=below_alloc hb (.cells #[.string ⟨#[]⟩,.int .u8 0,.string ⟨#[]⟩,.slice none 0 0,.slice none 0 0,.slice none 0 0] 36)
       refine vA ?_
       refine hK.out _ _ (⟨(hbn.block _ (blk_lt H96.out)).trans H96.out,HST.out _ (HB6.out.trans (hbn.mono HB6.out.size))⟩) (fun hHeld => ?_)
       refine nA 15 ?_
       refine jA (hc4 (V.heap.size,gb) _ (⟨hbn,hb.size,blk_new V (.cells #[.string ⟨#[]⟩,.int .u8 0,.string ⟨#[]⟩,.slice none 0 0,.slice none 0 0,.slice none 0 0] 36),hl11,(ha.block _ (blk_lt hz11)).trans hz11,Ne.symm (Nat.ne_of_lt (blk_lt hz11))⟩))
     intro hc6
     have hb:Below (v5.alloc (.cells #[.int .u8 a.kind,.int .i64 a.size,.string a.data] 46)).heap.size (v5.alloc (.cells #[.int .u8 a.kind,.int .i64 a.size,.string a.data] 46)) (v5.alloc (.cells #[.int .u8 a.kind,.int .i64 a.size,.string a.data] 46)).drew:=bdrew (Below.refl _ _)
     generalize hVV:(v5.alloc (.cells #[.int .u8 a.kind,.int .i64 a.size,.string a.data] 46)).drew=V at *
     refine three_ (i:=5) (j:=10) (k:=11) (Ni:=some 72) (Nj:=some 15) (Nk:=some 16) (bmE 15 63) (bmE 15 1055) (bmE 15 2079) rfl rfl rfl rfl rfl rfl (by kernel_rfl) (by decide) (by decide) (by decide) (fun K hK => ?_) (fun K hK => ?_) (fun K hK => ?_)
     ·refine gA Tryz.func10 #[.agg #[.string ft.name,.int .u8 ft.kind,.string ft.data,.slice Ar ft.files.length cr,.slice Al ff.length cl,.slice At fr.length ct],.agg #[.int .u8 x.kind,.slice A1 x.path.length c1,.slice B1 x.dest.length d1,.string x.data]] ?_
      refine (rDo_F ft Ar cr ff Al cl fr At ct x HOX.out A1 B1 c1 d1 _ (fun j=>(¬ Grown S v4 v5 j∧j≠w5.heap.size)∧j<v5.heap.size+1) (Kd.F_below H126.out hb) h10 hfb H5.out (Kd.C_below HF.out (HB6.out.trans (hb.mono HB6.out.size))) hcl (by omega) (Kd.F_below H136.out hb) h11 hfl H8.out (Kd.F_now (Kd.F_below HP6.out hb)) hxc1 (by omega) (Kd.F_now (Kd.F_below HQ6.out hb)) hd1 (by omega) (by omega) f' a why HDO.out).mono ?_
      rintro e w5 ⟨Ar2,cr2,At2,ct2,lo,hi,rfl,hcr2,hct2,hlo,hhi,hFr,hTr,hq5⟩
      refine ⟨_,rfl,?_⟩
      have hbn:=hb.trans (hq5.mono hb.size)
      refine hK.out _ _ (⟨(hbn.block _ (blk_lt H96.out)).trans H96.out,HST.out _ (HB6.out.trans (hbn.mono HB6.out.size))⟩) (fun hHeld => ?_)
      refine nA 72 ?_
      refine pA 6 66 (bmE 15 127) ?_
      refine pA 7 73 (bmE 15 255) ?_
      refine pA 8 74 (bmE 15 511) ?_
      refine pA 9 75 (bmE 15 1023) ?_
      refine jA (hc3 (Ar2,cr2,At2,ct2,lo,hi) _ (⟨hbn,hcr2,hct2,Nat.le_trans hb.size hlo,hhi,hFr,hTr⟩))
     ·have ha:=below_alloc (Below.refl V.heap.size V) (.cells #[.string ⟨#[]⟩,.int .u8 0,.string ⟨#[]⟩,.slice none 0 0,.slice none 0 0,.slice none 0 0] 36)
      have hbn:=below_alloc hb (.cells #[.string ⟨#[]⟩,.int .u8 0,.string ⟨#[]⟩,.slice none 0 0,.slice none 0 0,.slice none 0 0] 36)
      refine vA ?_
      refine hK.out _ _ (⟨(hbn.block _ (blk_lt H96.out)).trans H96.out,HST.out _ (HB6.out.trans (hbn.mono HB6.out.size))⟩) (fun hHeld => ?_)
      refine nA 15 ?_
      refine jA (hc5 V.heap.size _ (⟨hbn,hb.size,blk_new V (.cells #[.string ⟨#[]⟩,.int .u8 0,.string ⟨#[]⟩,.slice none 0 0,.slice none 0 0,.slice none 0 0] 36)⟩))
     ·have ha:=below_alloc (Below.refl V.heap.size V) (.cells #[.int .u8 0,.int .i64 0,.string ⟨#[]⟩] 46)
      have hbn:=below_alloc hb (.cells #[.int .u8 0,.int .i64 0,.string ⟨#[]⟩] 46)
      refine vA ?_
      refine hK.out _ _ (⟨(hbn.block _ (blk_lt H96.out)).trans H96.out,HST.out _ (HB6.out.trans (hbn.mono HB6.out.size))⟩) (fun hHeld => ?_)
      refine nA 16 ?_
      refine jA (hc6 V.heap.size _ (⟨hbn,hb.size,blk_new V (.cells #[.int .u8 0,.int .i64 0,.string ⟨#[]⟩] 46)⟩))
    ·rintro ⟨⟨Ar2,cr2,At2,ct2,lo,hi⟩,gs,gb⟩ V hF
     obtain ⟨hb,hl10,hz10,hl11,hz11,hd10_11,hcr2,hct2,hlo,hhi,hFr,hTr,hjs,hjb⟩:=hF
     refine uA ?_
     refine one_ (i:=12) (N:=none) (bmE 15 8191) rfl rfl (by kernel_rfl) (by decide) (fun K hK => ?_)
     obtain ⟨az0,az1,az2,az3,az4,az5⟩:=c6A hz10
     obtain ⟨au0,au1,au2,au3,au4,au5⟩:=u6A hz10
     refine sA ?_
     have HO12:=Lib.hid (store6_only V gs (.string f'.tree.name) (.int .u8 f'.tree.kind) (.string f'.tree.data) (.slice Ar2 f'.tree.files.length cr2) (.slice Al ff.length cl) (.slice At2 f'.trace.length ct2))
     have hb12:=hb.trans (HO12.out.below (B:=(v5.alloc (.cells #[.int .u8 a.kind,.int .i64 a.size,.string a.data] 46)).heap.size) hb.size (fun k hk e=>by omega))
     have HS12:Hid (((((((V.setCell ⟨gs,0,none⟩ (.string f'.tree.name)).setCell ⟨gs,1,none⟩ (.int .u8 f'.tree.kind)).setCell ⟨gs,2,none⟩ (.string f'.tree.data)).setCell ⟨gs,3,none⟩ (.slice Ar2 f'.tree.files.length cr2)).setCell ⟨gs,4,none⟩ (.slice Al ff.length cl)).setCell ⟨gs,5,none⟩ (.slice At2 f'.trace.length ct2)).heap[gs]? = some (.cells #[.string f'.tree.name,.int .u8 f'.tree.kind,.string f'.tree.data,.slice Ar2 f'.tree.files.length cr2,.slice Al ff.length cl,.slice At2 f'.trace.length ct2] 36 (0,0))):=Lib.hid (set_block (set_block (set_block (set_block (set_block (set_block hz10 0 (.string f'.tree.name)) 1 (.int .u8 f'.tree.kind)) 2 (.string f'.tree.data)) 3 (.slice Ar2 f'.tree.files.length cr2)) 4 (.slice Al ff.length cl)) 5 (.slice At2 f'.trace.length ct2))
     have hz12:=(HO12.out.block gb (blk_lt hz11) (Ne.symm hd10_11)).trans hz11
     have hs12:=HO12.out.size
     refine hK.out _ _ (⟨(hb12.block _ (blk_lt H96.out)).trans H96.out,HST.out _ (HB6.out.trans (hb12.mono HB6.out.size))⟩) (fun hHeld => ?_)
     clear az0 au0 az1 au1 az2 au2 az3 au3 az4 au4 az5 au5
     generalize ((((((V.setCell ⟨gs,0,none⟩ (.string f'.tree.name)).setCell ⟨gs,1,none⟩ (.int .u8 f'.tree.kind)).setCell ⟨gs,2,none⟩ (.string f'.tree.data)).setCell ⟨gs,3,none⟩ (.slice Ar2 f'.tree.files.length cr2)).setCell ⟨gs,4,none⟩ (.slice Al ff.length cl)).setCell ⟨gs,5,none⟩ (.slice At2 f'.trace.length ct2))=V12 at *
     refine one_ (i:=13) (N:=none) (bmE 15 16383) rfl rfl (by kernel_rfl) (by decide) (fun K hK => ?_)
     obtain ⟨bz0,bz1,bz2⟩:=c3A hz12
     obtain ⟨bu0,bu1,bu2⟩:=u3A hz12
     refine sA ?_
     have HO13:=Lib.hid (store3_only V12 gb (.int .u8 a.kind) (.int .i64 a.size) (.string a.data))
     have hb13:=hb12.trans (HO13.out.below (B:=(v5.alloc (.cells #[.int .u8 a.kind,.int .i64 a.size,.string a.data] 46)).heap.size) hb12.size (fun k hk e=>by omega))
     have HS13:Hid ((((V12.setCell ⟨gb,0,none⟩ (.int .u8 a.kind)).setCell ⟨gb,1,none⟩ (.int .i64 a.size)).setCell ⟨gb,2,none⟩ (.string a.data)).heap[gb]? = some (.cells #[.int .u8 a.kind,.int .i64 a.size,.string a.data] 46 (0,0))):=Lib.hid (set_block (set_block (set_block hz12 0 (.int .u8 a.kind)) 1 (.int .i64 a.size)) 2 (.string a.data))
     have hs13:=HO13.out.size
     refine hK.out _ _ (⟨(hb13.block _ (blk_lt H96.out)).trans H96.out,HST.out _ (HB6.out.trans (hb13.mono HB6.out.size))⟩) (fun hHeld => ?_)
     clear bz0 bu0 bz1 bu1 bz2 bu2
     generalize (((V12.setCell ⟨gb,0,none⟩ (.int .u8 a.kind)).setCell ⟨gb,1,none⟩ (.int .i64 a.size)).setCell ⟨gb,2,none⟩ (.string a.data))=V13 at *
     refine pA 14 17 (bmE 15 32767) ?_
     refine done_ (by kernel_rfl) ?_
     have hgs13:=(HO13.out.block gs (blk_lt HS12.out) hd10_11).trans HS12.out
     have hr13:=(hb13.block _ (blk_lt H96.out)).trans H96.out
     have hs13':=hb13.size
     have hwv:wo.heap.size≤v5.heap.size:=by omega
     have hO14:=store6_only V13 w5.heap.size (.string f'.tree.name) (.int .u8 f'.tree.kind) (.string f'.tree.data) (.slice Ar2 f'.tree.files.length cr2) (.slice Al ff.length cl) (.slice At2 f'.trace.length ct2)
     have HF14:=Lib.hid (((HF5.out.below HAX6.out).below hb13).keep hO14 (fun k hk e=>by subst e;rcases hk with h | h;exact h3 h;omega))
     have hfb':f'.tree.bulk≤1099511627776:=by
      have h:=(do_grows ⟨ft,fr,ff⟩ x H5.out).2.1
      rw [HDO.out] at h
      simp only at h
      omega
     have hFm:∀ k,((((¬ Grown S v4 v5 k∧k≠w5.heap.size)∧k<v5.heap.size+1)∨(lo≤k∧k<hi))→k<V.heap.size→((((((V13.setCell ⟨w5.heap.size,0,none⟩ (.string f'.tree.name)).setCell ⟨w5.heap.size,1,none⟩ (.int .u8 f'.tree.kind)).setCell ⟨w5.heap.size,2,none⟩ (.string f'.tree.data)).setCell ⟨w5.heap.size,3,none⟩ (.slice Ar2 f'.tree.files.length cr2)).setCell ⟨w5.heap.size,4,none⟩ (.slice Al ff.length cl)).setCell ⟨w5.heap.size,5,none⟩ (.slice At2 f'.trace.length ct2)).heap[k]? = V.heap[k]?):=fun k hk hl=>(hO14.block k (by omega) (by omega)).trans ((HO13.out.block k (by omega) (by omega)).trans (HO12.out.block k hl (by omega)))
     have HR14:Hid (((((((V13.setCell ⟨w5.heap.size,0,none⟩ (.string f'.tree.name)).setCell ⟨w5.heap.size,1,none⟩ (.int .u8 f'.tree.kind)).setCell ⟨w5.heap.size,2,none⟩ (.string f'.tree.data)).setCell ⟨w5.heap.size,3,none⟩ (.slice Ar2 f'.tree.files.length cr2)).setCell ⟨w5.heap.size,4,none⟩ (.slice Al ff.length cl)).setCell ⟨w5.heap.size,5,none⟩ (.slice At2 f'.trace.length ct2)).heap[w5.heap.size]? = some (.cells #[.string f'.tree.name,.int .u8 f'.tree.kind,.string f'.tree.data,.slice Ar2 f'.tree.files.length cr2,.slice Al ff.length cl,.slice At2 f'.trace.length ct2] 36 (0,0))):=Lib.hid (set_block (set_block (set_block (set_block (set_block (set_block ((hb13.block _ (blk_lt H96.out)).trans H96.out) 0 (.string f'.tree.name)) 1 (.int .u8 f'.tree.kind)) 2 (.string f'.tree.data)) 3 (.slice Ar2 f'.tree.files.length cr2)) 4 (.slice Al ff.length cl)) 5 (.slice At2 f'.trace.length ct2))
     have HA14:=Lib.hid ((hO14.block v5.heap.size (by have:=hb13.size;omega) (by omega)).trans ((hb13.block _ (blk_lt HA6.out)).trans HA6.out))
     have HB14:=Lib.hid ((hO14.block gb (blk_lt HS13.out) (by omega)).trans HS13.out)
     have HW14:=Lib.hid ((HB6.out.trans (hb13.mono HB6.out.size)).trans (hO14.below (B:=w.heap.size) (by omega) (fun k hk e=>by omega)))
     have HFr14:=Lib.hid (Kd.F_step hFr hFm)
     have HTr14:=Lib.hid (Kd.F_step hTr hFm)
     obtain ⟨l0,l1,l2,l3,l4,l5⟩:=c6A hgs13
     obtain ⟨cz0,cz1,cz2,cz3,cz4,cz5⟩:=c6A hr13
     obtain ⟨cu0,cu1,cu2,cu3,cu4,cu5⟩:=u6A hr13
     go_wp2_with fail
     generalize ((((((V13.setCell ⟨w5.heap.size,0,none⟩ (.string f'.tree.name)).setCell ⟨w5.heap.size,1,none⟩ (.int .u8 f'.tree.kind)).setCell ⟨w5.heap.size,2,none⟩ (.string f'.tree.data)).setCell ⟨w5.heap.size,3,none⟩ (.slice Ar2 f'.tree.files.length cr2)).setCell ⟨w5.heap.size,4,none⟩ (.slice Al ff.length cl)).setCell ⟨w5.heap.size,5,none⟩ (.slice At2 f'.trace.length ct2))=W14 at *
     refine start_ (n:=24) (S:=fun w'=>w'.heap[w5.heap.size]? = some (.cells #[.string f'.tree.name,.int .u8 f'.tree.kind,.string f'.tree.data,.slice Ar2 f'.tree.files.length cr2,.slice Al ff.length cl,.slice At2 f'.trace.length ct2] 36 (0,0))∧w'.heap[v5.heap.size]? = some (.cells #[.int .u8 a.kind,.int .i64 a.size,.string a.data] 46 (0,0))∧w'.heap[gb]? = some (.cells #[.int .u8 a.kind,.int .i64 a.size,.string a.data] 46 (0,0))) (ds:=[]) (bmE 24 0) (by kernel_rfl) rfl rfl ⟨((bdrew (Below.refl W14.heap.size W14)).block _ (blk_lt HR14.out)).trans HR14.out,((bdrew (Below.refl W14.heap.size W14)).block _ (blk_lt HA14.out)).trans HA14.out,((bdrew (Below.refl W14.heap.size W14)).block _ (blk_lt HB14.out)).trans HB14.out⟩ (fun hHeld => ?_)
     refine tA 0 77 (bmE 24 1) hHeld ?_ (hy:=by
      rintro w' ⟨s0,s1,s2⟩
      have q0:=cell_of (j:=0) s1 rfl
      have q1:=cell_of (j:=1) s1 rfl
      have q2:=cell_of (j:=2) s1 rfl
      go_simp
      with_reducible rfl)
     refine tA 1 78 (bmE 24 3) hHeld ?_ (hy:=by
      rintro w' ⟨s0,s1,s2⟩
      have q0:=cell_of (j:=0) s2 rfl
      have q1:=cell_of (j:=1) s2 rfl
      have q2:=cell_of (j:=2) s2 rfl
      go_simp
      with_reducible rfl)
     refine pA 2 79 (bmE 24 7) ?_
     refine pA 3 80 (bmE 24 15) ?_
     refine pA 4 81 (bmE 24 31) ?_
     refine pA 5 82 (bmE 24 63) ?_
     refine pA 6 83 (bmE 24 127) ?_
     refine pA 7 84 (bmE 24 255) ?_
     refine pA 8 85 (bmE 24 511) ?_
     refine pA 9 86 (bmE 24 1023) ?_
     refine pA 11 88 (bmE 24 3071) ?_
     refine tA 12 89 (bmE 24 7167) hHeld ?_ (hy:=by
      rintro w' ⟨s0,s1,s2⟩
      have q0:=cell_of (j:=0) s0 rfl
      have q1:=cell_of (j:=1) s0 rfl
      have q2:=cell_of (j:=2) s0 rfl
      have q3:=cell_of (j:=3) s0 rfl
      go_simp
      with_reducible rfl)
     refine eA 10 87 (bmE 24 8191) (fun K hK => ?_)
     refine gA Tryz.func12 #[.pointer (some ⟨g1,0,none⟩)] ?_
     refine (tree_in _ g1 (Grown S v4 v5) f' (HF14.out.below (bdrew (Below.refl W14.heap.size W14))) hfb').mono ?_
     rintro e u7 ⟨A7,c7,rfl,hc7,hR7,hq7⟩
     have hC7:=(Kd.R_reads' hR7).2.2
     have hb7:=(bdrew (Below.refl W14.heap.size W14)).trans (hq7.mono (Below.size (bdrew (Below.refl W14.heap.size W14))))
     refine ⟨_,rfl,?_⟩
     refine hK.out _ _ ⟨(hb7.block _ (blk_lt HR14.out)).trans HR14.out,(hb7.block _ (blk_lt HA14.out)).trans HA14.out,(hb7.block _ (blk_lt HB14.out)).trans HB14.out⟩ (fun hHeld => ?_)
     refine nA 87 ?_
     refine eA 13 90 (bmE 24 16383) (fun K hK => ?_)
     refine gA Tryz.func11 #[.agg (fc f'.tree A7 c7),.agg (fc f'.tree Ar2 cr2)] ?_
     refine (show Calls Tryz.prog 11 #[.agg (fc f'.tree A7 c7),.agg (fc f'.tree Ar2 cr2)] _ _ from sameC f'.tree A7 Ar2 c7 cr2 u7 hfb' hC7 hc7 (Kd.F_now (Kd.F_below HFr14.out hb7)) hcr2).mono ?_
     rintro e u8 ⟨rfl,hq8⟩
     have hb8:=hb7.trans (hq8.mono hb7.size)
     refine ⟨_,rfl,?_⟩
     refine hK.out _ _ ⟨(hb8.block _ (blk_lt HR14.out)).trans HR14.out,(hb8.block _ (blk_lt HA14.out)).trans HA14.out,(hb8.block _ (blk_lt HB14.out)).trans HB14.out⟩ (fun hHeld => ?_)
     refine nA 90 ?_
     refine pA 14 91 (bmE 24 32767) ?_
     refine pA 15 92 (bmE 24 65535) ?_
     refine pA 16 93 (bmE 24 131071) ?_
     refine pA 17 94 (bmE 24 262143) ?_
     refine pA 19 96 (bmE 24 786431) ?_
     refine tA 20 97 (bmE 24 1835007) hHeld ?_ (hy:=by
      rintro w' ⟨s0,s1,s2⟩
      have q5:=cell_of (j:=5) s0 rfl
      go_simp
      with_reducible rfl)
     refine pA 21 98 (bmE 24 3932159) ?_
     refine eA 18 95 (bmE 24 4194303) (fun K hK => ?_)
     refine gA Tryz.func13 #[.pointer (some ⟨g1,0,none⟩)] ?_
     refine (calls_in u8 g1 (Grown S v4 v5) f' (HF14.out.below hb8)).mono ?_
     rintro e u9 ⟨rfl,rfl⟩
     refine ⟨_,rfl,?_⟩
     refine hK.out _ _ ⟨(hb8.block _ (blk_lt HR14.out)).trans HR14.out,(hb8.block _ (blk_lt HA14.out)).trans HA14.out,(hb8.block _ (blk_lt HB14.out)).trans HB14.out⟩ (fun hHeld => ?_)
     refine nA 95 ?_
     refine pA 22 99 (bmE 24 8388607) ?_
     refine pA 23 100 (bmE 24 16777215) ?_
     refine done_ (by kernel_rfl) ?_
     have hgrow:=do_grows ⟨ft,fr,ff⟩ x H5.out
     have hshort:=do_short (f:=⟨ft,fr,ff⟩) (x:=x) H8.out
     rw [HDO.out] at hgrow hshort
     simp only at hgrow hshort
     have hb45:Below W3.heap.size W3 v5:=(hbase.trans (HR4.out.mono hbase.size)).trans (ho5.below (B:=W3.heap.size) (by have:=hbase.size;omega) (fun j hj hS=>by have:=(h2 j hS).1;omega))
     have hb46:Below W3.heap.size W3 V13:=(hb45.trans (HAX6.out.mono hb45.size)).trans (hb13.mono (by have:=hb45.size;omega))
     have hb48:Below W3.heap.size W3 u9:=(hb46.trans (hO14.below (B:=W3.heap.size) hb46.size (fun j hj e=>by omega))).trans (hb8.mono (by have:=hb46.size;have:=hO14.size;omega))
     have hv5s:v5.heap.size≤u9.heap.size:=by
      have:=hO14.size
      have:=hb8.size
      omega
     have hFP:∀ j,(((¬ Grown S v4 v5 j∧j≠w5.heap.size)∧j<v5.heap.size+1)∨(lo≤j∧j<hi))→¬ Grown S v4 v5 j∧j≠w5.heap.size:=fun j hj=>by
      rcases hj with hj | hj
      ·exact hj.1
      ·exact HG2.out j (by omega)
     have hGR:∀ j,Grown S v4 v5 j→W3.heap.size≤j∧j<u9.heap.size:=fun j hj=>by
      rcases hj with hj | hj
      ·have:=h2 j hj
       omega
      ·have:=hbase.size
       omega
     have hTK:=HTK.out
     have HIN:=Lib.hid (show CallsI W3 g1 w5.heap.size t ff Al cl L (k+1) u9 from ⟨Grown S v4 v5,f',Ar2,cr2,At2,ct2,HF14.out.below hb8,hGR,fun h=>by rcases h with h | h;exact h3 h;omega,hgrow.2.2.2,hgrow.1,by omega,by omega,hshort,(hb8.block _ (blk_lt HR14.out)).trans HR14.out,hcr2,hct2,Kd.F_mono (Kd.F_below HFr14.out hb8) hFP,Kd.F_mono (Kd.F_below HTr14.out hb8) hFP,hb48⟩)
     clear hgrow hshort hb45 hb46 hb48 hFP hGR hTK
     go_wp2_with fail
     go_roundw
     case rel=>exact ⟨k+1,by omega,by go_num,HIN⟩
     case measure=>simp [RowKit.intOf];omega
  ·obtain rfl:k=L.length:=by omega
   obtain ⟨S,f,Ar,cr,At,ct,h1,h2,h3,h4,h5,h6,h7,h8,h9,h10,h11,h12,h13,h14⟩:=HI.out
   have hsl:=HSL.out
   have hsk:=calls_steps_le L L.length
   have H1:=Lib.hid h1
   have H8:=Lib.hid h8
   have H9:=Lib.hid h9
   have H13:=Lib.hid (Kd.F_now h13)
   have HG:=Lib.hid ((hbase.block _ (blk_lt HG3.out)).trans HG3.out)
   have HX:=Lib.hid ((hbase.block _ (blk_lt HX3.out)).trans HX3.out)
   have HGC:=Lib.hid (Kd.C_below HC3.out hbase)
   have HTC:=Lib.hid (Kd.C_below HT.out hbw)
   have hfl:f.trace.length≤1000000:=by omega
   have hbt2:t.bulk≤1099511627776:=by omega
   have HW:=Lib.hid hbw
   clear h1 h2 h3 h4 h5 h6 h8 h9 h12 h13 h14 hsl hsk HI hbase hbw
   go_wp2_with fail
   refine start_ (n:=11) (S:=fun w'=>w'.heap[w5.heap.size]? = some (.cells #[.string f.tree.name,.int .u8 f.tree.kind,.string f.tree.data,.slice Ar f.tree.files.length cr,.slice Al l.length cl,.slice At f.trace.length ct] 36 (0,0))∧w'.heap[w2.heap.size]? = some (.cells (fc t A2 c2) 25 (0,0))∧w'.heap[w.heap.size]? = some (.cells (fc t A c) 25 (0,0))) (ds:=[]) (bmE 11 0) (by kernel_rfl) rfl rfl ⟨((bdrew (Below.refl wo.heap.size wo)).block _ (blk_lt H9.out)).trans H9.out,((bdrew (Below.refl wo.heap.size wo)).block _ (blk_lt HG.out)).trans HG.out,((bdrew (Below.refl wo.heap.size wo)).block _ (blk_lt HX.out)).trans HX.out⟩ (fun hHeld => ?_)
   refine pA 0 101 (bmE 11 1) ?_
   refine pA 2 103 (bmE 11 5) ?_
   refine tA 3 104 (bmE 11 13) hHeld ?_ (hy:=by
    rintro w' ⟨s0,s1,s2⟩
    have q5:=cell_of (j:=5) s0 rfl
    go_simp
    with_reducible rfl)
   refine eA 1 102 (bmE 11 15) (fun K hK => ?_)
   refine gA Tryz.func15 #[.pointer (some ⟨g1,0,none⟩)] ?_
   refine (trace_in _ g1 S f (H1.out.below (bdrew (Below.refl wo.heap.size wo))) hfl H8.out).mono ?_
   rintro e u7 ⟨v7,rfl,hR7,hq7⟩
   obtain ⟨A7,c7,rfl,hc7,hC7⟩:=Kd.R_reads hR7
   have HC7:=Lib.hid hC7
   have hb7:=(bdrew (Below.refl wo.heap.size wo)).trans (hq7.mono (Below.size (bdrew (Below.refl wo.heap.size wo))))
   refine ⟨_,rfl,?_⟩
   refine hK.out _ _ ⟨(hb7.block _ (blk_lt H9.out)).trans H9.out,(hb7.block _ (blk_lt HG.out)).trans HG.out,(hb7.block _ (blk_lt HX.out)).trans HX.out⟩ (fun hHeld => ?_)
   refine nA 102 ?_
   refine eA 4 105 (bmE 11 31) (fun K hK => ?_)
   refine gA Tryz.func14 #[.slice A7 f.trace.length c7,.slice At f.trace.length ct] ?_
   refine (sameC_calls A7 c7 f.trace At ct u7 HC7.out hc7 (Kd.C_below H13.out hb7) h11 hfl (fun y hy=>⟨by have:=(H8.out y hy).1;omega,by have:=(H8.out y hy).2;omega⟩)).mono ?_
   rintro e u8 ⟨rfl,hq8⟩
   have hb8:=hb7.trans (hq8.mono hb7.size)
   refine ⟨_,rfl,?_⟩
   refine hK.out _ _ ⟨(hb8.block _ (blk_lt H9.out)).trans H9.out,(hb8.block _ (blk_lt HG.out)).trans HG.out,(hb8.block _ (blk_lt HX.out)).trans HX.out⟩ (fun hHeld => ?_)
   refine nA 105 ?_
   refine pA 5 106 (bmE 11 63) ?_
   refine tA 6 107 (bmE 11 127) hHeld ?_ (hy:=by
    rintro w' ⟨s0,s1,s2⟩
    have q0:=cell_of (j:=0) s1 rfl
    have q1:=cell_of (j:=1) s1 rfl
    have q2:=cell_of (j:=2) s1 rfl
    have q3:=cell_of (j:=3) s1 rfl
    go_simp
    with_reducible rfl)
   refine tA 7 108 (bmE 11 255) hHeld ?_ (hy:=by
    rintro w' ⟨s0,s1,s2⟩
    have q0:=cell_of (j:=0) s2 rfl
    have q1:=cell_of (j:=1) s2 rfl
    have q2:=cell_of (j:=2) s2 rfl
    have q3:=cell_of (j:=3) s2 rfl
    go_simp
    with_reducible rfl)
   refine eA 8 109 (bmE 11 511) (fun K hK => ?_)
   refine gA Tryz.func11 #[.agg (fc t A2 c2),.agg (fc t A c)] ?_
   refine (show Calls Tryz.prog 11 #[.agg (fc t A2 c2),.agg (fc t A c)] _ _ from sameC t A2 A c2 c _ hbt2 (Kd.C_below HGC.out hb8) hc2 (Kd.C_below HTC.out hb8) hc).mono ?_
   rintro e u9 ⟨rfl,hq9⟩
   have hb9:=hb8.trans (hq9.mono hb8.size)
   refine ⟨_,rfl,?_⟩
   refine hK.out _ _ ⟨(hb9.block _ (blk_lt H9.out)).trans H9.out,(hb9.block _ (blk_lt HG.out)).trans HG.out,(hb9.block _ (blk_lt HX.out)).trans HX.out⟩ (fun hHeld => ?_)
   refine nA 109 ?_
   refine pA 9 110 (bmE 11 1023) ?_
   refine pA 10 6 (bmE 11 2047) ?_
   refine done_ (by kernel_rfl) ?_
   go_wp2_with fail
   go_ret
   exact ⟨rfl,HW.out.trans (hb9.mono HW.out.size)⟩
end Go.Proofs.YthlcjjhfkldmhaaGreatDoor.G
end
end
