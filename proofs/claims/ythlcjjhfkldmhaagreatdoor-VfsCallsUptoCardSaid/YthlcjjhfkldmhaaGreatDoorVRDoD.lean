import Derived.Test.YthlcjjhfkldmhaaGreatDoorVNew
import Derived.Test.YthlcjjhfkldmhaaGreatDoorSq
import Derived.Test.YthlcjjhfkldmhaaGreatDoorPRef2
import Derived.Test.YthlcjjhfkldmhaaGreatDoorKit
import Derived.Test.YthlcjjhfkldmhaaGreatDoorVApi
import Derived.Test.YthlcjjhfkldmhaaGreatDoorQNEv
import Derived.Test.YthlcjjhfkldmhaaGreatDoorVRDoP
set_option linter.unusedVariables false
set_option linter.unusedSimpArgs false
section
namespace Go.Proofs.YthlcjjhfkldmhaaGreatDoor.G
open Go.RowKit Go.Lib Go.Proofs.YthlcjjhfkldmhaaGreatDoorW.PrintWords Go.Proofs.YthlcjjhfkldmhaaGreatDoorW.PrintLast
set_option linter.unusedVariables false
def FsIn (S:Nat→Prop) (w:World) (g:Nat) (f:FsV):Prop:=∃ O tb,FsAt w g O tb f∧¬ O g∧S g∧∀ k,O k→S k
def Grown (S:Nat→Prop) (w w':World) (k:Nat):Prop:=S k∨w.heap.size≤k∧k<w'.heap.size
theorem fs_tb {w:World} {g:Nat} {O:Nat→Prop} {tb:Option Nat} {f:FsV} (h:FsAt w g O tb f):∀ k,tb=some k→O k:=by
 obtain ⟨A,c,v,m,lo,hi,_,_,_,_,h5,h6,_⟩:=h
 exact fun k e=>((Kd.R_bound h5).1 k (h6.trans e)).1
theorem FsIn.keep {S F:Nat→Prop} {w w':World} {g:Nat} {f:FsV} (h:FsIn S w g f) (ho:Only F w w') (hd:∀ k,S k→¬ F k):FsIn S w' g f:=by
 obtain ⟨O,tb,h1,h2,h3,h4⟩:=h
 exact ⟨O,tb,h1.keep (fun k hk=>ho.block k (hk.elim (fun e=>e ▸ h1.lt) (h1.lts k)) (hd k (hk.elim (fun e=>e ▸ h3) (h4 k)))) ho.size,h2,h3,h4⟩
theorem FsIn.below {S:Nat→Prop} {w w':World} {g:Nat} {f:FsV} (h:FsIn S w g f) (hb:Below w.heap.size w w'):FsIn S w' g f:=by
 obtain ⟨O,tb,h1,h2,h3,h4⟩:=h
 exact ⟨O,tb,h1.below hb,h2,h3,h4⟩
theorem FsIn.mono {S T:Nat→Prop} {w:World} {g:Nat} {f:FsV} (h:FsIn S w g f) (hS:∀ k,S k→T k):FsIn T w g f:=by
 obtain ⟨O,tb,h1,h2,h3,h4⟩:=h
 exact ⟨O,tb,h1,h2,hS _ h3,fun k hk=>hS k (h4 k hk)⟩
theorem fsIn_post {S:Nat→Prop} {w w':World} {g:Nat} {O:Nat→Prop} {tb:Option Nat} {f f':FsV} (hfs:FsAt w g O tb f) (hg:¬ O g) (hS:S g) (hO:∀ k,O k→S k) (h:FsPost w g O tb f' w'):FsIn (Grown S w w') w' g f'∧Only S w w':=by
 obtain ⟨⟨tb',h1,h2⟩,h3⟩:=h
 have hl:=hfs.lt
 refine ⟨⟨_,tb',h2,fun h=>h.elim hg fun h=>by omega,.inl hS,fun k hk=>hk.imp (hO k) id⟩,h3.mono fun k _ hk => ?_⟩
 rcases hk with h | h
 ·exact h ▸ hS
 ·exact hO k (fs_tb hfs k h)
theorem path_in {S:Nat→Prop} {w:World} {g:Nat} {O:Nat→Prop} {tb:Option Nat} {f:FsV} {A:Option Addr} {p:List ByteArray} (hfs:FsAt w g O tb f) (hS:S g) (hO:∀ k,O k→S k) (h:Kd.F Kd.string w (fun k=>¬ S k) A p.length p):PathAt w g tb A p :=
 Kd.F_mono h fun k hk=>⟨fun e=>hk (e ▸ hS),fun e=>hk (hO k (fs_tb hfs k e))⟩
theorem new_in (t:File) (A:Option Addr) (c:Nat) (Al:Option Addr) (cl:Nat) (l:List Int) (w:World) (ht:FileK.C w A t.files.length t.files) (hc:t.files.length≤c) (hbt:t.bulk≤1099511627776) (hl:Kd.C (Kd.int .i64) w Al l.length l) (hcl:l.length≤cl) (hll:l.length≤1099511627776) :
  Calls Tryz.prog 6 #[fileV t A c,.slice Al l.length cl] w fun e w'=>(rightT t=false∧e=.returned (.tuple #[.pointer none,.int .i64 30])∧Below w.heap.size w w')∨(rightT t=true∧∃ g,e=.returned (.tuple #[.pointer (some ⟨g,0,none⟩),.int .i64 0])∧FsIn (fun k=>w.heap.size≤k∧k<w'.heap.size) w' g ⟨t,[],l⟩∧Below w.heap.size w w'):=by
 refine (new_calls t A c Al cl l w ht hc hbt hl hcl hll).mono ?_
 rintro e w' (h | ⟨h1,g,h2,h3,h4,h5⟩)
 ·exact .inl h
 ·exact .inr ⟨h1,g,h2,⟨_,none,h3,fun h=>h.2.1 rfl,⟨h4,h3.lt⟩,fun k hk=>⟨hk.1,hk.2.2⟩⟩,h5⟩
theorem calls_in (w:World) (g:Nat) (S:Nat→Prop) (f:FsV) (h:FsIn S w g f) :
  Calls Tryz.prog 13 #[.pointer (some ⟨g,0,none⟩)] w fun e w'=>e=.returned (.int .i64 f.trace.length)∧w'=w:=by
 obtain ⟨O,tb,h1,_⟩:=h
 exact calls_api w g O tb f h1
theorem tree_in (w:World) (g:Nat) (S:Nat→Prop) (f:FsV) (h:FsIn S w g f) (hbt:f.tree.bulk≤1099511627776) :
  Calls Tryz.prog 12 #[.pointer (some ⟨g,0,none⟩)] w fun e w'=>∃ A c,e=.returned (fileV f.tree A c)∧f.tree.files.length≤c∧FileK.R 25 w' w.heap.size (fun _=>True) (.slice A f.tree.files.length c) f.tree.files∧Below w.heap.size w w':=by
 obtain ⟨O,tb,h1,_⟩:=h
 exact tree_api w g O tb f h1 hbt
theorem do_in (w:World) (g:Nat) (S:Nat→Prop) (f:FsV) (h:FsIn S w g f) (hbt:f.tree.bulk≤100000000) (htl:f.trace.length≤2000000) (x:Step) (A B:Option Addr) (c d:Nat) (HP:Kd.F Kd.string w (fun k=>¬ S k) A x.path.length x.path) (hc:x.path.length≤c) (hpB:P.sumP x.path≤1099511627776) (HQ:Kd.F Kd.string w (fun k=>¬ S k) B x.dest.length x.dest) (hd:x.dest.length≤d) (hqB:P.sumP x.dest≤1099511627776) (hdb:x.data.size≤100000000) :
  Calls Tryz.prog 9 #[.pointer (some ⟨g,0,none⟩),.agg #[.int .u8 x.kind,.slice A x.path.length c,.slice B x.dest.length d,.string x.data]] w fun e w'=>e=.returned (.tuple #[.agg #[.int .u8 (doV f x).2.1.kind,.int .i64 (doV f x).2.1.size,.string (doV f x).2.1.data],.int .i64 (doV f x).2.2])∧FsIn (Grown S w w') w' g (doV f x).1∧Only S w w':=by
 obtain ⟨O,tb,h1,h2,h3,h4⟩:=h
 refine (do_calls w g O tb f h1 h2 hbt htl x A B c d (path_in h1 h3 h4 HP) hc hpB (path_in h1 h3 h4 HQ) hd hqB hdb).mono fun e w' hp=>⟨hp.1,fsIn_post h1 h2 h3 h4 hp.2⟩
end Go.Proofs.YthlcjjhfkldmhaaGreatDoor.G
end
section
namespace Go.Proofs.YthlcjjhfkldmhaaGreatDoor.G
open Go.RowKit Go.Lib Go.Proofs.YthlcjjhfkldmhaaGreatDoorW.PrintWords Go.Proofs.YthlcjjhfkldmhaaGreatDoorW.PrintLast
set_option linter.unusedVariables false
set_option linter.unusedSimpArgs false
def zeroCall:Call:=⟨0,[],[],0⟩
theorem call_at {w:World} {A:Option Addr} {l:List Call} (h:CallK.C w A l.length l) (k:Nat) (hk:k<l.length) :
  ∃ ad A' c' B' d',A=some ad∧w.cell? (ad.add (k * 4))=some (.int .u8 l[k].kind)∧w.cell? ⟨(ad.add (k * 4)).block,(ad.add (k * 4)).off+1,none⟩=some (.slice A' l[k].path.length c')
   ∧ w.cell? ⟨(ad.add (k * 4)).block,(ad.add (k * 4)).off+2,none⟩=some (.slice B' l[k].dest.length d')∧w.cell? ⟨(ad.add (k * 4)).block,(ad.add (k * 4)).off+3,none⟩=some (.int .i64 l[k].why)
   ∧ l[k].path.length≤c'∧Kd.C Kd.string w A' l[k].path.length l[k].path∧l[k].dest.length≤d'∧Kd.C Kd.string w B' l[k].dest.length l[k].dest:=by
 obtain ⟨ad,c,e,_,hK,hc0⟩:=Kd.C_get h zeroCall (k:Int) (by omega) (by omega)
 rw [Int.toNat_natCast] at hc0 hK
 have hg:l.getD k zeroCall=l[k]:=by simp [List.getD,hk]
 rw [hg] at hK
 have hc:∀ j u,c[j]? = some u→w.cell? (ad.add (k * 4+j))=some u:=hc0
 obtain ⟨A',c',B',d',rfl,h1,h2,h3,h4⟩:=call_open hK
 exact ⟨ad,A',c',B',d',e,hc 0 _ rfl,by rw [← add_field _ _ 1 (by omega)];exact hc 1 _ rfl,by rw [← add_field _ _ 2 (by omega)];exact hc 2 _ rfl,by rw [← add_field _ _ 3 (by omega)];exact hc 3 _ rfl,h1,h2,h3,h4⟩
theorem rsame_one (A:Option Addr) (c:Nat) (B:Option Addr) (d:Nat) (a:List ByteArray) (w:World) (hr:Kd.C Kd.string w A a.length a) (hc:a.length≤c) (hs:Kd.C Kd.string w B a.length a) (hd:a.length≤d) (hl:a.length≤8796093022208) :
  Calls Tryz.prog 19 #[.slice A a.length c,.slice B a.length d] w fun e w'=>e=.returned (.bool true)∧Below w.heap.size w w':=by
 refine (P.rsame_calls A c a B d a w hr hc hs hd hl).mono ?_
 rintro e w' ⟨rfl,n,rfl⟩
 exact ⟨by rw [show P.sameB a a=true from decide_eq_true rfl],bdrewN (Below.refl _ _) n⟩
set_option maxHeartbeats 8000000 in
set_option maxRecDepth 100000 in
theorem sameC_calls (A:Option Addr) (c:Nat) (l:List Call) (B:Option Addr) (d:Nat) (w:World) (hr:CallK.C w A l.length l) (hc:l.length≤c) (hs:CallK.C w B l.length l) (hd:l.length≤d) (hl:l.length≤1000000) (hpl:∀ x∈l,x.path.length≤8796093022208∧x.dest.length≤8796093022208) :
  Calls Tryz.prog 14 #[.slice A l.length c,.slice B l.length d] w fun e w'=>e=.returned (.bool true)∧Below w.heap.size w w':=by
 have HR:=Lib.hid hr
 have HS:=Lib.hid hs
 have HPL:=Lib.hid hpl
 clear hr hs hpl
 have hz:((l.length:Int) != (l.length:Int))=false:=by simp
 go_enter Tryz.func14,Tryz.ntmps14
 go_wp2_with fail
 go_loopw [5] (fun i wr=>∃ k:Nat,k≤l.length∧i=.int .i64 k∧Below w.heap.size w wr) (fun i _=>l.length - (RowKit.intOf i).toNat)
 case atStart=>exact ⟨0,by omega,rfl,Below.refl _ _⟩
 case round =>
  obtain ⟨k,hk,rfl,hb⟩:=hrel
  by_cases q1:k<l.length
  ·obtain ⟨aad,A1,c1,A2,c2,rfl,p0,p1,p2,p3,hc1,hC1,hc2,hC2⟩:=call_at HR.out k q1
   obtain ⟨bad,B1,d1,B2,d2,rfl,r0,r1,r2,r3,hd1,hD1,hd2,hD2⟩:=call_at HS.out k q1
   obtain ⟨x1,x2⟩:=HPL.out _ (List.getElem_mem q1)
   have HPA:=Lib.hid (fun W (h:Below wr.heap.size wr W)=>rsame_one A1 c1 B1 d1 l[k].path W (Kd.C_below hC1 (bstep hb hb.size h)) hc1 (Kd.C_below hD1 (bstep hb hb.size h)) hd1 x1)
   have HPB:=Lib.hid (fun W (h:Below wr.heap.size wr W)=>rsame_one A2 c2 B2 d2 l[k].dest W (Kd.C_below hC2 (bstep hb hb.size h)) hc2 (Kd.C_below hD2 (bstep hb hb.size h)) hd2 x2)
   have hF8:∀ W,Below wr.heap.size wr W→W.cell? (aad.add (k * 4))=some (.int .u8 l[k].kind)∧W.cell? ⟨(aad.add (k * 4)).block,(aad.add (k * 4)).off+1,none⟩=some (.slice A1 l[k].path.length c1)∧W.cell? ⟨(aad.add (k * 4)).block,(aad.add (k * 4)).off+2,none⟩=some (.slice A2 l[k].dest.length c2)∧W.cell? ⟨(aad.add (k * 4)).block,(aad.add (k * 4)).off+3,none⟩=some (.int .i64 l[k].why)∧W.cell? (bad.add (k * 4))=some (.int .u8 l[k].kind)∧W.cell? ⟨(bad.add (k * 4)).block,(bad.add (k * 4)).off+1,none⟩=some (.slice B1 l[k].path.length d1)∧W.cell? ⟨(bad.add (k * 4)).block,(bad.add (k * 4)).off+2,none⟩=some (.slice B2 l[k].dest.length d2)∧W.cell? ⟨(bad.add (k * 4)).block,(bad.add (k * 4)).off+3,none⟩=some (.int .i64 l[k].why):=fun W h=>by
    have mv:∀ {p:Addr} {v:Value},w.cell? p=some v→W.cell? p=some v:=fun q=>((bstep hb hb.size h).cell (World.block_lt_of_cell? w _ q)).trans q
    exact ⟨mv p0,mv p1,mv p2,mv p3,mv r0,mv r1,mv r2,mv r3⟩
   have HF8:=Lib.hid hF8
   clear hC1 hC2 hD1 hD2 hF8 p0 p1 p2 p3 r0 r1 r2 r3 x1 x2
   generalize l[k]=x at *
   have g1:(k:Int)<(l.length:Int):=by omega
   have z1:(x.kind != x.kind)=false:=by simp
   have z2:(x.why != x.why)=false:=by simp
   go_wp2_with fail
   refine start_ (n:=52) (S:=fun w'=>w'.cell? (aad.add (k * 4))=some (.int .u8 x.kind)∧w'.cell? ⟨(aad.add (k * 4)).block,(aad.add (k * 4)).off+1,none⟩=some (.slice A1 x.path.length c1)∧w'.cell? ⟨(aad.add (k * 4)).block,(aad.add (k * 4)).off+2,none⟩=some (.slice A2 x.dest.length c2)∧w'.cell? ⟨(aad.add (k * 4)).block,(aad.add (k * 4)).off+3,none⟩=some (.int .i64 x.why)∧w'.cell? (bad.add (k * 4))=some (.int .u8 x.kind)∧w'.cell? ⟨(bad.add (k * 4)).block,(bad.add (k * 4)).off+1,none⟩=some (.slice B1 x.path.length d1)∧w'.cell? ⟨(bad.add (k * 4)).block,(bad.add (k * 4)).off+2,none⟩=some (.slice B2 x.dest.length d2)∧w'.cell? ⟨(bad.add (k * 4)).block,(bad.add (k * 4)).off+3,none⟩=some (.int .i64 x.why)) (ds:=[]) (bq 52 0) (by kernel_rfl) rfl rfl (HF8.out _ (bdrew (Below.refl _ _))) (fun hHeld => ?_)
   refine pA 0 17 (bq 52 1) ?_
   refine pA 1 18 (bq 52 3) ?_
   refine pA 2 19 (bq 52 7) ?_
   refine pA 3 20 (bq 52 15) ?_
   refine pA 5 22 (bq 52 47) ?_
   refine pA 6 23 (bq 52 111) ?_
   refine pA 7 24 (bq 52 239) ?_
   refine pA 8 25 (bq 52 495) ?_
   refine tA 4 21 (bq 52 511) hHeld ?_ (hy:=by
    rintro w' ⟨s0,s1,s2,s3,s4,s5,s6,s7⟩
    go_simp
    with_reducible rfl)
   refine tA 9 26 (bq 52 1023) hHeld ?_ (hy:=by
    rintro w' ⟨s0,s1,s2,s3,s4,s5,s6,s7⟩
    go_simp
    with_reducible rfl)
   refine pA 10 27 (bq 52 2047) ?_
   refine pA 11 28 (bq 52 4095) ?_
   refine pA 12 29 (bq 52 8191) ?_
   refine pA 13 30 (bq 52 16383) ?_
   refine pA 14 31 (bq 52 32767) ?_
   refine pA 15 32 (bq 52 65535) ?_
   refine pA 17 34 (bq 52 196607) ?_
   refine pA 18 35 (bq 52 458751) ?_
   refine pA 19 36 (bq 52 983039) ?_
   refine pA 20 37 (bq 52 2031615) ?_
   refine tA 16 33 (bq 52 2097151) hHeld ?_ (hy:=by
    rintro w' ⟨s0,s1,s2,s3,s4,s5,s6,s7⟩
    go_simp
    with_reducible rfl)
   refine tA 21 38 (bq 52 4194303) hHeld ?_ (hy:=by
    rintro w' ⟨s0,s1,s2,s3,s4,s5,s6,s7⟩
    go_simp
    with_reducible rfl)
   refine pA 22 39 (bq 52 8388607) ?_
   refine pA 23 40 (bq 52 16777215) ?_
   refine pA 24 41 (bq 52 33554431) ?_
   refine pA 25 42 (bq 52 67108863) ?_
   refine pA 26 43 (bq 52 134217727) ?_
   refine pA 27 44 (bq 52 268435455) ?_
   refine pA 28 45 (bq 52 536870911) ?_
   refine pA 30 47 (bq 52 1610612735) ?_
   refine pA 31 48 (bq 52 3758096383) ?_
   refine pA 32 49 (bq 52 8053063679) ?_
   refine pA 33 50 (bq 52 16642998271) ?_
   refine tA 29 46 (bq 52 17179869183) hHeld ?_ (hy:=by
    rintro w' ⟨s0,s1,s2,s3,s4,s5,s6,s7⟩
    go_simp
    with_reducible rfl)
   refine tA 34 51 (bq 52 34359738367) hHeld ?_ (hy:=by
    rintro w' ⟨s0,s1,s2,s3,s4,s5,s6,s7⟩
    go_simp
    with_reducible rfl)
   refine eA 35 52 (bq 52 68719476735) (fun K hK => ?_)
   refine gA Tryz.func19 #[.slice A1 x.path.length c1,.slice B1 x.path.length d1] ?_
   refine (HPA.out _ (bdrew (Below.refl wr.heap.size wr))).mono ?_
   rintro e w5 ⟨rfl,hq5⟩
   refine ⟨_,rfl,?_⟩
   have hb5:=(bdrew (Below.refl wr.heap.size wr)).trans (hq5.mono ((bdrew (Below.refl wr.heap.size wr))).size)
   refine hK.out _ _ (HF8.out _ hb5) (fun hHeld => ?_)
   refine nA 52 ?_
   refine pA 36 53 (bq 52 137438953471) ?_
   refine pA 37 54 (bq 52 274877906943) ?_
   refine pA 38 55 (bq 52 549755813887) ?_
   refine pA 39 56 (bq 52 1099511627775) ?_
   refine pA 40 57 (bq 52 2199023255551) ?_
   refine pA 41 58 (bq 52 4398046511103) ?_
   refine pA 42 59 (bq 52 8796093022207) ?_
   refine pA 44 61 (bq 52 26388279066623) ?_
   refine pA 45 62 (bq 52 61572651155455) ?_
   refine pA 46 63 (bq 52 131941395333119) ?_
   refine pA 47 64 (bq 52 272678883688447) ?_
   refine tA 43 60 (bq 52 281474976710655) hHeld ?_ (hy:=by
    rintro w' ⟨s0,s1,s2,s3,s4,s5,s6,s7⟩
    go_simp
    with_reducible rfl)
   refine tA 48 65 (bq 52 562949953421311) hHeld ?_ (hy:=by
    rintro w' ⟨s0,s1,s2,s3,s4,s5,s6,s7⟩
    go_simp
    with_reducible rfl)
   refine eA 49 66 (bq 52 1125899906842623) (fun K hK => ?_)
   refine gA Tryz.func19 #[.slice A2 x.dest.length c2,.slice B2 x.dest.length d2] ?_
   refine (HPB.out _ hb5).mono ?_
   rintro e w6 ⟨rfl,hq6⟩
   refine ⟨_,rfl,?_⟩
   have hb6:=hb5.trans (hq6.mono (hb5).size)
   refine hK.out _ _ (HF8.out _ hb6) (fun hHeld => ?_)
   refine nA 66 ?_
   refine pA 50 67 (bq 52 2251799813685247) ?_
   refine pA 51 68 (bq 52 4503599627370495) ?_
   refine done_ (by kernel_rfl) ?_
   go_wp2_with fail
   go_roundw
   case rel=>exact ⟨k+1,by omega,by go_num,bstep hb hb.size hb6⟩
   case measure=>simp [RowKit.intOf];omega
  ·obtain rfl:k=l.length:=by omega
   go_wp2_with fail
   go_ret
   exact ⟨rfl,hb⟩
end Go.Proofs.YthlcjjhfkldmhaaGreatDoor.G
end
section
namespace Go.Proofs.YthlcjjhfkldmhaaGreatDoor.G
open Go.RowKit Go.Lib Go.Proofs.YthlcjjhfkldmhaaGreatDoorW.PrintWords Go.Proofs.YthlcjjhfkldmhaaGreatDoorW.PrintLast
set_option linter.unusedVariables false
set_option linter.unusedSimpArgs false
set_option maxHeartbeats 8000000 in
set_option maxRecDepth 100000 in
theorem copied_calls (A:Option Addr) (c:Nat) (l:List Call) (w:World) (hr:CallK.C w A l.length l) (hc:l.length≤c) (hl:l.length≤1000000) (hpl:∀ x∈l,x.path.length≤1099511627776∧x.dest.length≤1099511627776) :
  Calls Tryz.prog 32 #[.slice A l.length c] w fun e w'=>∃ v,e=.returned v∧CallK.R 79 w' w.heap.size (fun _=>True) v l∧Below w.heap.size w w':=by
 have HR:=Lib.hid hr
 have HPL:=Lib.hid hpl
 clear hr hpl
 go_enter Tryz.func32,Tryz.ntmps32
 go_wp2_with fail
 go_loopw [3,4] (fun v i wr=>∃ k:Nat,k≤l.length∧i=.int .i64 k∧Hid (CallK.R 79 wr w.heap.size (fun _=>True) v (l.take k))∧Below w.heap.size w wr) (fun _ i _=>l.length - (RowKit.intOf i).toNat)
 case atStart=>exact ⟨0,by omega,rfl,Lib.hid (Kd.R_nil _ _ _ _ _),Below.refl _ _⟩
 case round =>
  obtain ⟨k,hk,rfl,HO,hb⟩:=hrel
  have hsz:=hb.size
  by_cases hlt:k<l.length
  ·obtain ⟨ad,A1,c1,B1,d1,rfl,p0,p1,p2,p3,hc1,hP,hd1,hQ⟩:=call_at HR.out k hlt
   have mv:∀ {p:Addr} {v:Value},w.cell? p=some v→wr.cell? p=some v:=fun h=>(hb.cell (World.block_lt_of_cell? w _ h)).trans h
   have p0':=mv p0
   have p1':=mv p1
   have p2':=mv p2
   have p3':=mv p3
   have hpl:=HPL.out _ (List.getElem_mem hlt)
   have HT:=Lib.hid (List.take_succ_eq_append_getElem hlt)
   have HL:=Lib.hid (show (l.take k).length=k by rw [List.length_take];omega)
   have HP:=Lib.hid (Kd.C_below hP hb)
   have HQ:=Lib.hid (Kd.C_below hQ hb)
   generalize l[k]=y at *
   have g1:(k:Int)<(l.length:Int):=by omega
   have hax:=below_alloc (Below.refl wr.heap.size wr) (.cells #[.int .u8 y.kind,.slice A1 y.path.length c1,.slice B1 y.dest.length d1,.int .i64 y.why] 79)
   have HX:=Lib.hid (blk_new wr (.cells #[.int .u8 y.kind,.slice A1 y.path.length c1,.slice B1 y.dest.length d1,.int .i64 y.why] 79))
   have hxs:(wr.alloc (.cells #[.int .u8 y.kind,.slice A1 y.path.length c1,.slice B1 y.dest.length d1,.int .i64 y.why] 79)).heap.size=wr.heap.size+1:=by simp
   have HAX:=Lib.hid hax
   have e1:=cell_of (j:=1) HX.out rfl
   clear p0 p1 p2 p3 mv hP hQ hax
   go_wp2_with fail
   clear p0' p1' p2' p3' e1
   generalize (wr.alloc (.cells #[.int .u8 y.kind,.slice A1 y.path.length c1,.slice B1 y.dest.length d1,.int .i64 y.why] 79))=X1 at *
   refine (P.rcopy_calls A1 c1 y.path X1 (Kd.C_below HP.out HAX.out) hc1 (by omega)).mono ?_
   rintro e w4 ⟨v4,rfl,hR4,hq4⟩
   obtain ⟨A4,c4,rfl⟩:=Kd.R_slice hR4
   have hs4:=hq4.size
   have HX4:=Lib.hid ((hq4.block _ (blk_lt HX.out)).trans HX.out)
   have HA4:=Lib.hid (HAX.out.trans (hq4.mono HAX.out.size))
   have HB4:=Lib.hid (blk_put HX4.out 1 (.slice A4 y.path.length c4) rfl)
   have HR4:=Lib.hid hR4
   have z1:=cell_of (j:=1) HX4.out rfl
   have u1:=unfr HX4.out 1
   obtain ⟨W5,hW5⟩:∃ W,w4.setCell ⟨wr.heap.size,1,none⟩ (.slice A4 y.path.length c4)=W:=⟨_,rfl⟩
   have hb5:∀ j,j≠wr.heap.size→W5.heap[j]? = w4.heap[j]? := fun j hj=>by rw [← hW5];exact Below.heap_setCell _ _ _ _ (by simpa using hj)
   have hs5:W5.heap.size≤w4.heap.size∧w4.heap.size≤W5.heap.size:=by rw [← hW5];simp [World.setCell]
   have HW5:=Lib.hid (show w4.setCell ⟨wr.heap.size,1,none⟩ (.slice A4 y.path.length c4)=W5 from hW5)
   have HX5:Hid (W5.heap[wr.heap.size]? = some (.cells #[.int .u8 y.kind,.slice A4 y.path.length c4,.slice B1 y.dest.length d1,.int .i64 y.why] 79 (0,0))):=Lib.hid (by rw [← hW5];exact HB4.out)
   have hbw5:Below wr.heap.size wr W5:=by rw [← hW5];exact HA4.out.trans ((Only.setCell w4 _ _).below (by have:=HA4.out.size;omega) (fun k hk e=>by have e':k=wr.heap.size:=e;omega))
   have HBW5:=Lib.hid hbw5
   have HB5:=Lib.hid hb5
   have z2:=cell_of (j:=2) HX5.out rfl
   clear hR4 hq4 hb5 hbw5 HB4
   go_wp2_with fail
   clear z1 u1 hW5 z2
   refine (P.rcopy_calls B1 d1 y.dest W5 (Kd.C_below HQ.out HBW5.out) hd1 (by omega)).mono ?_
   rintro e w6 ⟨v6,rfl,hR6,hq6⟩
   obtain ⟨A6,c6,rfl⟩:=Kd.R_slice hR6
   have hs6:=hq6.size
   have HX6:=Lib.hid ((hq6.block _ (blk_lt HX5.out)).trans HX5.out)
   have HB6:=Lib.hid (blk_put HX6.out 2 (.slice A6 y.dest.length c6) rfl)
   have z2:=cell_of (j:=2) HX6.out rfl
   have u2:=unfr HX6.out 2
   obtain ⟨W7,hW7⟩:∃ W,w6.setCell ⟨wr.heap.size,2,none⟩ (.slice A6 y.dest.length c6)=W:=⟨_,rfl⟩
   have hb7:∀ j,j≠wr.heap.size→W7.heap[j]? = w6.heap[j]? := fun j hj=>by rw [← hW7];exact Below.heap_setCell _ _ _ _ (by simpa using hj)
   have hs7:W7.heap.size≤w6.heap.size∧w6.heap.size≤W7.heap.size:=by rw [← hW7];simp [World.setCell]
   have HX7:Hid (W7.heap[wr.heap.size]? = some (.cells #[.int .u8 y.kind,.slice A4 y.path.length c4,.slice A6 y.dest.length c6,.int .i64 y.why] 79 (0,0))):=Lib.hid (by rw [← hW7];exact HB6.out)
   have hbw7:Below wr.heap.size wr W7:=by rw [← hW7];exact (HBW5.out.trans (hq6.mono HBW5.out.size)).trans ((Only.setCell w6 _ _).below (by have:=HBW5.out.size;omega) (fun k hk e=>by have e':k=wr.heap.size:=e;omega))
   have hlt4:=Kd.R_lt HO.out
   have HO7:=Lib.hid (Kd.R_below HO.out hbw7)
   have hbx:=bstep hb hsz hbw7
   have hsz7:=hbx.size
   have HP7:Hid (Kd.R Kd.string 9 W7 w.heap.size (fun j=>wr.heap.size≤j) (.slice A4 y.path.length c4) y.path):=Lib.hid (Kd.R_lower (Kd.R_mono (Kd.R_step (Kd.R_bound HR4.out) (w1:=W7) fun j hj _=>by
    have h1:=hj.2.1
    have h2:=hj.2.2.1
    exact (hb7 j (by omega)).trans ((hq6.block j (by omega)).trans (HB5.out j (by omega)))) (fun j h=>by have:=h.2.1;omega)) (by omega))
   have HQ7:Hid (Kd.R Kd.string 9 W7 w.heap.size (fun j=>wr.heap.size≤j) (.slice A6 y.dest.length c6) y.dest):=Lib.hid (Kd.R_lower (Kd.R_mono (Kd.R_step (Kd.R_bound hR6) (w1:=W7) fun j hj _=>by
    have h1:=hj.2.1
    exact hb7 j (by omega)) (fun j h=>by have:=h.2.1;omega)) (by omega))
   obtain ⟨l0,l1,l2,l3⟩:=c4A HX7.out
   clear hR6 hq6 hb7 hbw7 HB6
   go_wp2_with (at_builtin;refine Kd.R_append CallK (w0:=w) w.heap.size rfl (.tmp 24) (.tmp 26) 34 79 (.agg #[.int .u8 0,.slice none 0 0,.slice none 0 0,.int .i64 0]) 64 rfl Tryz.underlying34 info_call rfl (by decide) (by decide) _ (l.take k) y [.int .u8 y.kind,.slice A4 y.path.length c4,.slice A6 y.dest.length c6,.int .i64 y.why] (fun _=>True) (fun j=>wr.heap.size≤j) rfl rfl ?aP ?aK ?aF ?aO ?aB ?aS ?aL ?_;(case aP=>exact call_mkM _ _ _ y HP7.out HQ7.out);(case aK=>exact fun j hj=>⟨trivial,fun e=>by have:=hlt4 j e.symm;omega⟩);(case aF=>exact (fun _ _=>trivial));(case aO=>exact HO7.out);(case aB=>exact hbx);(case aS=>exact hsz7);(case aL=>rw [HL.out];omega);intro v1 w8 ho hb8 hg hat)
   go_roundw
   case rel=>exact ⟨k+1,by omega,by go_num,Lib.hid (by rw [HT.out];exact ho),hb8⟩
   case measure=>simp [RowKit.intOf];omega
  ·obtain rfl:k=l.length:=by omega
   go_wp2_with fail
   go_ret
   refine ⟨_,rfl,?_,hb⟩
   have:=HO.out
   rw [List.take_length] at this
   exact this
end Go.Proofs.YthlcjjhfkldmhaaGreatDoor.G
end
section
section
namespace Go.Proofs.YthlcjjhfkldmhaaGreatDoor.G
open Go.RowKit Go.Lib Go.Proofs.YthlcjjhfkldmhaaGreatDoorW.PrintWords Go.Proofs.YthlcjjhfkldmhaaGreatDoorW.PrintLast
set_option linter.unusedVariables false
set_option linter.unusedSimpArgs false
def orRaw {α:Type} (d:Kd α):Kd (α ⊕ List Value) where
 sz:=d.sz
 E:=d.E
 K:=fun w x cs=>match x with | .inl y=>d.K w y cs | .inr c=>cs=c∧cs.length=d.sz∧∀ u∈cs,u.oneCell'=true
 M:=fun w base ok x cs=>match x with | .inl y=>d.M w base ok y cs | .inr c=>cs=c∧cs.length=d.sz∧∀ u∈cs,u.oneCell'=true
 K_len:=by
  intro w x cs h
  cases x with
  | inl y=>exact d.K_len h
  | inr c=>exact h.2.1
 K_one:=by
  intro w x cs h
  cases x with
  | inl y=>exact d.K_one h
  | inr c=>exact h.2.2
 K_below:=by
  intro w w1 x cs hb h
  cases x with
  | inl y=>exact d.K_below hb h
  | inr c=>exact h
 K_of_M:=by
  intro w base ok x cs h
  cases x with
  | inl y=>exact d.K_of_M h
  | inr c=>exact h
 M_mono:=by
  intro w base ok ok' x cs hk h
  cases x with
  | inl y=>exact d.M_mono hk h
  | inr c=>exact h
 M_bound:=by
  intro w base ok x cs h
  cases x with
  | inl y=>exact d.M_bound h
  | inr c=>exact h
 M_move:=by
  intro w w1 base ok x cs hm h
  cases x with
  | inl y=>exact d.M_move hm h
  | inr c=>exact h
 M_lower:=by
  intro w base base' ok x cs hb h
  cases x with
  | inl y=>exact d.M_lower hb h
  | inr c=>exact h
theorem reps_map {α β:Type} {R:α→List Value→Prop} {R':β→List Value→Prop} {sz:Nat} {f:α→β} {xs:List α} {inner:List Value} (h:Reps R sz xs inner) (hf:∀ x cs,R x cs→R' (f x) cs):Reps R' sz (xs.map f) inner:=by
 refine ⟨by rw [List.length_map];exact h.1,fun j p hj => ?_⟩
 rw [List.getElem?_map] at hj
 obtain ⟨x,hx,rfl⟩:=Option.map_eq_some_iff.1 hj
 exact hf _ _ (h.2 j x hx)
theorem reps_unmap {α β:Type} {R:α→List Value→Prop} {R':β→List Value→Prop} {sz:Nat} {f:α→β} {xs:List α} {inner:List Value} (h:Reps R' sz (xs.map f) inner) (hf:∀ x cs,R' (f x) cs→R x cs):Reps R sz xs inner:=by
 refine ⟨by have:=h.1;rwa [List.length_map] at this,fun j x hj => ?_⟩
 exact hf _ _ (h.2 j (f x) (by rw [List.getElem?_map,hj];rfl))
theorem R_orRaw {α:Type} {d:Kd α} {e:Nat} {w:World} {base:Nat} {ok:Nat→Prop} {v:Value} {rows:List (List Value)} (h:(Kd.raw d.sz).R e w base ok v rows):(orRaw d).R e w base ok v (rows.map Sum.inr):=by
 obtain ⟨h0,inner,ho,hr⟩:=h
 exact ⟨h0,inner,by rw [List.length_map];exact ho,reps_map hr fun x cs hx=>hx⟩
theorem R_unRaw {α:Type} {d:Kd α} {e:Nat} {w:World} {base:Nat} {ok:Nat→Prop} {v:Value} {xs:List α} (h:(orRaw d).R e w base ok v (xs.map Sum.inl)):d.R e w base ok v xs:=by
 obtain ⟨h0,inner,ho,hr⟩:=h
 exact ⟨h0,inner,by rw [List.length_map] at ho;exact ho,reps_unmap hr fun x cs hx=>hx⟩
set_option maxHeartbeats 1000000 in
theorem cloneC_calls (A:Option Addr) (c:Nat) (l:List Call) (w:World) (hr:Kd.F CallK w (fun k=>k<w.heap.size) A l.length l) (hc:l.length≤c) (hl:l.length≤1000000) :
  Calls Tryz.prog 33 #[.slice A l.length c] w fun e w'=>∃ v,e=.returned v∧Kd.N CallK 79 w' w.heap.size (fun _=>True) v l∧Below w.heap.size w w':=by
 have hq:=fun W=>Lib.run_eql_slice_nil (P:=Tryz.prog) W 34 79 A l.length c 0 0 Tryz.underlying34
 have HR:=Lib.hid hr
 clear hr
 cases A with
 | none =>
  go_enter Tryz.func33,Tryz.ntmps33
  go_wp2
  go_ret
  refine ⟨_,rfl,?_,Below.refl _ _⟩
  have:l=[]:=by
   rcases Nat.eq_zero_or_pos l.length with h | h
   ·exact List.length_eq_zero_iff.1 h
   ·obtain ⟨ad,h',_⟩:=(Kd.F_now HR.out).2.2 h;cases h'
  subst this
  exact Kd.N_nil _ _ _ _ _
 | some ad =>
  go_enter Tryz.func33,Tryz.ntmps33
  go_wp2_with (at_builtin;refine Kd.N_append_rows CallK (w0:=w) w.heap.size rfl (.tmp 5) (.tmp 6) 34 79 (.agg #[.int .u8 0,.slice none 0 0,.slice none 0 0,.int .i64 0]) 64 rfl Tryz.underlying34 info_call rfl (by decide) (by decide) _ [] l (some ad) l.length c (fun _=>True) (fun k=>k<w.heap.size) rfl rfl ?aO ?aR ?aK ?aF ?aB ?aS ?aL ?_;(case aO=>exact Kd.R_N (R_lit0 _ _ _ _ _ (Nat.le_refl _) (fun _ _=>trivial)));(case aR=>exact Kd.F_below HR.out ((Below.refl _ _).alloc (Nat.le_refl _) _));(case aK=>exact fun k hk=>⟨trivial,fun e=>absurd (Option.some.inj (e.trans (show (Value.slice (some ⟨w.heap.size,0,none⟩) 0 0).ownBlock=some w.heap.size from rfl))) (Nat.ne_of_lt hk)⟩);(case aF=>exact fun _ _=>trivial);(case aB=>exact (Below.refl _ _).alloc (Nat.le_refl _) _);(case aS=>simp);(case aL=>simp;omega);intro v1 w1 ho hb hg hat)
  go_ret
  exact ⟨_,rfl,ho,hb⟩
def TrI (w:World) (l:List Call) (v:Value) (rows:List (List Value)) (k:Nat) (wr:World):Prop :=
 (orRaw CallK).R 79 wr w.heap.size (fun _=>True) v ((l.take k).map Sum.inl++(rows.drop k).map Sum.inr)∧(∀ (j:Nat) (x:Call) (c:List Value),l[j]? = some x→rows[j]? = some c→Kd.FK CallK wr (fun k=>some k≠v.ownBlock) x c)∧Below w.heap.size w wr
theorem tr_set {l:List Call} {rows:List (List Value)} {k:Nat} (hk:k<l.length) (hr:rows.length=l.length):((l.take k).map Sum.inl++(rows.drop k).map Sum.inr:List (Call ⊕ List Value)).set k (Sum.inl l[k])=(l.take (k+1)).map Sum.inl++(rows.drop (k+1)).map Sum.inr:=by
 have h1:(l.take k).length=k:=by rw [List.length_take];omega
 rw [List.set_append_right _ _ (by rw [List.length_map,h1];exact Nat.le_refl _),List.length_map,h1,Nat.sub_self,List.drop_eq_getElem_cons (show k<rows.length by omega),List.map_cons,List.set_cons_zero,List.take_succ_eq_append_getElem hk,List.map_append,List.append_assoc]
 rfl
theorem tr_get {l:List Call} {rows:List (List Value)} {k:Nat} (hk:k<l.length) (hr:rows.length=l.length) (z:Call ⊕ List Value):((l.take k).map Sum.inl++(rows.drop k).map Sum.inr:List (Call ⊕ List Value)).getD k z=Sum.inr (rows[k]'(by omega)):=by
 have h1:(l.take k).length=k:=by rw [List.length_take];omega
 rw [List.getD_eq_getElem?_getD,List.getElem?_append_right (by rw [List.length_map,h1];exact Nat.le_refl _),List.length_map,h1,Nat.sub_self,List.drop_eq_getElem_cons (show k<rows.length by omega)]
 rfl
theorem cell_two {wr W:World} {ad:Addr} {k:Nat} {cells:Array Value} {v u:Value} {t:TypeId} (h:wr.heap[(ad.add (k * 4)).block]? = some (.cells cells t (0,0))) (hb:Below wr.heap.size wr W) (hu:W.cell? ⟨(ad.add (k * 4)).block,(ad.add (k * 4)).off+2,none⟩=some u):(W.setCell ⟨(ad.add (k * 4)).block,(ad.add (k * 4)).off+1,none⟩ v).cell? ⟨(ad.add (k * 4)).block,(ad.add (k * 4)).off+2,none⟩=some u:=by
 have h1:=(hb.block _ (blk_lt h)).trans h
 have h2:=blk_put h1 ((ad.add (k * 4)).off+1) v rfl
 rw [blk_cell h1] at hu
 rw [blk_cell h2,Array.getElem?_setIfInBounds_ne (by omega)]
 exact hu
theorem frozen_two {wr W:World} {ad:Addr} {k j:Nat} {cells:Array Value} {v:Value} {t:TypeId} (h:wr.heap[(ad.add (k * 4)).block]? = some (.cells cells t (0,0))) (hb:Below wr.heap.size wr W):(W.setCell ⟨(ad.add (k * 4)).block,(ad.add (k * 4)).off+1,none⟩ v).frozen? ⟨(ad.add (k * 4)).block,(ad.add (k * 4)).off+j,none⟩=false :=
 unfr (blk_put ((hb.block _ (blk_lt h)).trans h) ((ad.add (k * 4)).off+1) v rfl) _
set_option maxHeartbeats 8000000 in
set_option maxRecDepth 100000 in
theorem trace_api (w:World) (g:Nat) (O:Nat→Prop) (tb:Option Nat) (f:FsV) (hfs:FsAt w g O tb f) (htl:f.trace.length≤1000000) (hpl:∀ x∈f.trace,x.path.length≤8796093022208∧x.dest.length≤8796093022208) :
  Calls Tryz.prog 15 #[.pointer (some ⟨g,0,none⟩)] w fun e w'=>∃ v,e=.returned v∧CallK.R 79 w' w.heap.size (fun _=>True) v f.trace∧Below w.heap.size w w':=by
 obtain ⟨A,c,v,m,lo,hi,hbox,hle,hiv,hsep,htr,htb,hfl,hOm,hOlt⟩:=hfs
 unfold fsCells at hbox
 obtain ⟨AT,ct,rfl⟩:=Kd.R_slice htr
 have HB:=Lib.hid hbox
 have hct:=(Kd.R_reads' htr).2.1
 have HTR:=Lib.hid (Kd.F_mono (Kd.R_F htr) hOlt)
 have HPL:=Lib.hid hpl
 generalize f.trace=l at *
 clear hbox hiv hsep htr htb hfl hOm hOlt hpl
 go_enter Tryz.func15,Tryz.ntmps15
 have l1:=cell_of (j:=4) HB.out rfl
 go_wp2_with fail
 refine (cloneC_calls AT ct l w HTR.out hct htl).mono ?_
 rintro e w1 ⟨v,rfl,hN,hq1⟩
 obtain ⟨hn0,rows,hrl,hR,hFK⟩:=hN
 have HI0:Hid (TrI w l v rows 0 w1):=Lib.hid ⟨Kd.R_mono (by have h:=R_orRaw (d:=CallK) (show (Kd.raw CallK.sz).R _ _ _ _ _ _ from hR);simpa using h) (fun _ _=>trivial),fun j x c hx hc=>Kd.FK_mono (hFK j x c hx hc) fun k hk=>hk.2,hq1⟩
 obtain ⟨B,cB,rfl⟩:=Kd.R_slice hR
 have hcB:=(Kd.R_reads' hR).2.1
 rw [hrl] at HI0 hcB ⊢
 clear l1 hn0 hR hFK hq1
 go_wp2_with fail
 go_loopw [14] (fun i wr=>∃ k:Nat,k≤l.length∧i=.int .i64 k∧Hid (TrI w l (.slice B l.length cB) rows k wr)) (fun i _=>l.length - (RowKit.intOf i).toNat)
 case atStart=>exact ⟨0,by omega,rfl,HI0⟩
 case round =>
  obtain ⟨k,hk,rfl,HI⟩:=hrel
  clear HI0
  by_cases q1:k<l.length
  ·obtain ⟨hR,hF,hb⟩:=HI.out
   have hlen:((l.take k).map Sum.inl++(rows.drop k).map Sum.inr:List (Call ⊕ List Value)).length=l.length:=by
    simp only [List.length_append,List.length_map,List.length_take,List.length_drop]
    omega
   obtain ⟨b,cap,hv,hbb,hbl,cells,hcells⟩:=Kd.R_form hR (by rw [hlen];omega)
   rw [hlen] at hv
   injection hv with hB _ hcap
   subst hcap
   obtain ⟨ad,had⟩:∃ ad:Addr,ad=⟨b,0,none⟩:=⟨_,rfl⟩
   rw [← had] at hB
   subst hB
   obtain ⟨cs,hcl,hM,hcc,hfr⟩:=Kd.R_elem (by rw [had] at hR;exact hR) (Sum.inr []) (k:Int) (by omega) (by omega)
   rw [Int.toNat_natCast,tr_get q1 hrl] at hM
   rw [Int.toNat_natCast] at hcc hfr
   have hcr:cs=rows[k]'(by omega):=hM.1
   have hfk:=hF k _ _ (List.getElem?_eq_getElem q1) (List.getElem?_eq_getElem (show k<rows.length by omega))
   rw [← hcr] at hfk
   clear hcr
   have hx12:=HPL.out _ (List.getElem_mem q1)
   obtain ⟨x,hxx⟩:∃ x,l[k]=x:=⟨_,rfl⟩
   have HXX:=Lib.hid hxx
   rw [hxx] at hfk hx12
   clear hxx
   obtain ⟨hx1,hx2⟩:=hx12
   obtain ⟨A1,c1,A2,c2,hcs,hc1,hC1,hc2,hC2⟩:=call_open (Kd.FK_now hfk)
   have HC1:=Lib.hid hC1
   have HC2:=Lib.hid hC2
   have HCS:=Lib.hid hcs
   have HR:=Lib.hid hR
   have HF:=Lib.hid hF
   have HBW:=Lib.hid hb
   have HTY:=Lib.hid (show wr.heap[(ad.add (k * 4)).block]? = some (.cells cells 79 (0,0)) by rw [had,add_at4];exact hcells)
   have HAD:=Lib.hid had
   have HCC:=Lib.hid hcc
   have HCL:=Lib.hid hcl
   have HS0:Hid (∀ W,Below wr.heap.size wr W→(fun w'=>w'.cell? ⟨(ad.add (k * 4)).block,(ad.add (k * 4)).off+1,none⟩=some (.slice A1 x.path.length c1)∧w'.cell? ⟨(ad.add (k * 4)).block,(ad.add (k * 4)).off+2,none⟩=some (.slice A2 x.dest.length c2)) W):=Lib.hid (by
    intro W hW
    have h1:=hcc 1 (.slice A1 x.path.length c1) (by rw [hcs];rfl)
    have h2:=hcc 2 (.slice A2 x.dest.length c2) (by rw [hcs];rfl)
    rw [had,add_at4]
    exact ⟨(hW.cell (World.block_lt_of_cell? wr _ h1)).trans h1,(hW.cell (World.block_lt_of_cell? wr _ h2)).trans h2⟩)
   have HFZ:Hid (∀ W,Below wr.heap.size wr W→∀ j,W.frozen? ⟨(ad.add (k * 4)).block,(ad.add (k * 4)).off+j,none⟩=false):=Lib.hid fun W hW j=>unfr ((hW.block _ (blk_lt HTY.out)).trans HTY.out) _
   have g1:(k:Int)<(l.length:Int):=by omega
   have hbk:=blk_lt HTY.out
   clear hC1 hC2 hR hF hb hcells hM hcc hfr hfk hcs hcl had
   go_wp2_with fail
   refine start_ (n:=22) (S:=fun w'=>w'.cell? ⟨(ad.add (k * 4)).block,(ad.add (k * 4)).off+1,none⟩=some (.slice A1 x.path.length c1)∧w'.cell? ⟨(ad.add (k * 4)).block,(ad.add (k * 4)).off+2,none⟩=some (.slice A2 x.dest.length c2)) (ds:=[18,21]) (bq 22 0) (by kernel_rfl) rfl rfl (HS0.out _ (bdrew (Below.refl _ _))) (fun hHeld => ?_)
   have hqd:=bdrew (Below.refl wr.heap.size wr)
   have HS:Hid (∀ W,Below wr.drew.heap.size wr.drew W→(fun w'=>w'.cell? ⟨(ad.add (k * 4)).block,(ad.add (k * 4)).off+1,none⟩=some (.slice A1 x.path.length c1)∧w'.cell? ⟨(ad.add (k * 4)).block,(ad.add (k * 4)).off+2,none⟩=some (.slice A2 x.dest.length c2)) W):=Lib.hid fun W h=>HS0.out W (hqd.trans (h.mono hqd.size))
   have hC1:=Lib.hid (Kd.C_below HC1.out hqd)
   have hC2:=Lib.hid (Kd.C_below HC2.out hqd)
   have HB5:=Lib.hid (HBW.out.trans (hqd.mono HBW.out.size))
   have HQD:=Lib.hid hqd
   have hsd:=hqd.size
   clear hqd
   generalize wr.drew=WD at *
   refine pA 0 17 (bq 22 1) ?_
   refine pA 1 18 (bq 22 3) ?_
   refine pA 2 19 (bq 22 7) ?_
   refine pA 3 20 (bq 22 15) ?_
   refine pA 4 21 (bq 22 31) ?_
   refine pA 5 22 (bq 22 63) ?_
   refine pA 6 23 (bq 22 127) ?_
   refine pA 7 24 (bq 22 255) ?_
   refine pA 10 27 (bq 22 1279) ?_
   refine pA 11 28 (bq 22 3327) ?_
   refine pA 12 29 (bq 22 7423) ?_
   refine pA 13 30 (bq 22 15615) ?_
   refine tA 8 25 (bq 22 15871) hHeld ?_ (hy:=by
    rintro w' ⟨s0,s1⟩
    have q1:=s0
    go_simp
    with_reducible rfl)
   refine tA 14 31 (bq 22 32255) hHeld ?_ (hy:=by
    rintro w' ⟨s0,s1⟩
    have q2:=s1
    go_simp
    with_reducible rfl)
   refine eA 9 26 (bq 22 32767) (fun K hK => ?_)
   refine gA Tryz.func34 #[.slice A1 x.path.length c1] ?_
   refine (P.clone_calls A1 c1 x.path WD hC1.out hc1 hx1).mono ?_
   rintro e w5 ⟨v1,rfl,hR1,hq5⟩
   obtain ⟨D1,e1,rfl⟩:=Kd.R_slice hR1
   refine ⟨_,rfl,?_⟩
   have HR1:=Lib.hid hR1
   have hs5:=hq5.size
   refine hK.out _ _ (HS.out _ hq5) (fun hHeld => ?_)
   refine nA 26 ?_
   refine eA 15 32 (bq 22 65535) (fun K hK => ?_)
   refine gA Tryz.func34 #[.slice A2 x.dest.length c2] ?_
   refine (P.clone_calls A2 c2 x.dest w5 (Kd.C_below hC2.out hq5) hc2 hx2).mono ?_
   rintro e w6 ⟨v2,rfl,hR2,hq6⟩
   obtain ⟨D2,e2,rfl⟩:=Kd.R_slice hR2
   refine ⟨_,rfl,?_⟩
   have HR2:=Lib.hid hR2
   have hs6:=hq6.size
   have hq56:=hq5.trans (hq6.mono hs5)
   have HH:=Lib.hid (HS.out _ hq56)
   refine hK.out _ _ (HS.out _ hq56) (fun hHeld => ?_)
   refine nA 32 ?_
   refine pA 16 33 (bq 22 131071) ?_
   refine pA 17 34 (bq 22 262143) ?_
   refine last_ (i:=18) (N:=none) (bq 22 524287) rfl rfl (by kernel_rfl) (by decide) (fun K hK => ?_)
   have hq56w:=HQD.out.trans (hq56.mono hsd)
   have HT2:=Lib.hid (cell_two (v:=.slice D1 x.path.length e1) HTY.out hq56w HH.out.2)
   have HFZ2:=Lib.hid (frozen_two (v:=.slice D1 x.path.length e1) (j:=2) HTY.out hq56w)
   have z1:=HH.out.1
   have u1:=HFZ.out _ hq56w 1
   refine sA ?_
   refine hK.out _ _ ?_
   refine pA 19 35 (bq 22 1048575) ?_
   refine pA 20 36 (bq 22 2097151) ?_
   refine last_ (i:=21) (N:=none) (bq 22 4194303) rfl rfl (by kernel_rfl) (by decide) (fun K hK => ?_)
   have z2:=HT2.out
   have u2:=HFZ2.out
   refine sA ?_
   refine hK.out _ _ ?_
   refine done_ (by kernel_rfl) ?_
   have HN:Hid (TrI w l (.slice (some ad) l.length cB) rows (k+1) ((w6.setCell ⟨(ad.add (k * 4)).block,(ad.add (k * 4)).off+1,none⟩ (.slice D1 x.path.length e1)).setCell ⟨(ad.add (k * 4)).block,(ad.add (k * 4)).off+2,none⟩ (.slice D2 x.dest.length e2))):=Lib.hid (by
    have hh:ad.add (k * 4)=⟨b,k * 4,none⟩:=by rw [HAD.out,add_at4]
    rw [hh]
    have hq6w:=HQD.out.trans (hq56.mono hsd)
    have hR6:=Kd.R_below HR.out hq6w
    rw [HAD.out] at hR6
    have hcc6:∀ j u,cs[j]? = some u→w6.cell? ⟨b,(k:Int).toNat * (orRaw CallK).sz+j,none⟩=some u:=fun j u hu=>by
     have h1:=HCC.out j u hu
     rw [Int.toNat_natCast]
     exact (hq6w.cell (World.block_lt_of_cell? wr _ h1)).trans h1
    have hM:(orRaw CallK).M w6 w.heap.size (fun j=>WD.heap.size≤j) (Sum.inl x) (cs.take 1++[.slice D1 x.path.length e1,.slice D2 x.dest.length e2]++cs.drop (1+2)):=by
     rw [HCS.out]
     have hw:=HB5.out.size
     exact call_mkM w6 w.heap.size _ x (Kd.R_lower (Kd.R_mono (Kd.R_bound (Kd.R_below HR1.out hq6)) fun j hj=>hj.2.1) hw) (Kd.R_lower (Kd.R_mono (Kd.R_bound HR2.out) fun j hj=>by have:=hj.2.1;omega) (by omega))
    obtain ⟨hrow,hg⟩:=Kd.R_seg hR6 (k:Int) (by omega) (by omega) (c:=cs) (seg:=[.slice D1 x.path.length e1,.slice D2 x.dest.length e2]) (j:=1) HCL.out hcc6 (show 1+2≤4 by decide) hM (fun j hj=>⟨trivial,by omega⟩)
    rw [Int.toNat_natCast,← HXX.out,tr_set q1 hrl] at hrow
    refine ⟨by rw [HAD.out];rw [← HXX.out];exact hrow,fun j y c hy hc=>Kd.FK_step (HF.out j y c hy hc) fun i hi hl => ?_,?_⟩
    ·have hib:i≠b:=fun e=>hi (by rw [e,HAD.out];rfl)
     rw [Below.heap_setCell _ _ _ _ hib,Below.heap_setCell _ _ _ _ hib]
     exact hq6w.block i hl
    ·exact ((HB5.out.trans (hq56.mono HB5.out.size)).setCell (p:=⟨b,k * 4+1,none⟩) hbb _).setCell (p:=⟨b,k * 4+2,none⟩) hbb _)
   clear hHeld hK z1 u1 z2 u2
   go_wp2_with fail
   go_roundw
   case rel=>exact ⟨k+1,by omega,by go_num,HN⟩
   case measure=>simp [RowKit.intOf];omega
  ·obtain rfl:k=l.length:=by omega
   obtain ⟨hR,hF,hb⟩:=HI.out
   rw [List.drop_eq_nil_of_le (by omega),List.take_length,List.map_nil,List.append_nil] at hR
   have HRR:=Lib.hid (R_unRaw hR)
   clear hR hF
   go_wp2_with fail
   go_ret
   exact ⟨_,rfl,HRR.out,hb⟩
end Go.Proofs.YthlcjjhfkldmhaaGreatDoor.G
end
section
namespace Go.Proofs.YthlcjjhfkldmhaaGreatDoor.G
open Go.RowKit Go.Lib Go.Proofs.YthlcjjhfkldmhaaGreatDoorW.PrintWords Go.Proofs.YthlcjjhfkldmhaaGreatDoorW.PrintLast
set_option linter.unusedVariables false
set_option linter.unusedSimpArgs false
def fitS (x:Step):Prop:=P.rightB x.path=true∧(x.kind=5→P.rightB x.dest=true)
instance (x:Step):Decidable (fitS x):=by unfold fitS;infer_instance
theorem right_nil:P.rightB []=true:=by kernel_rfl
theorem fit_req (x:Step):(P.rightB (reqOf x).p=true∧P.rightB (reqOf x).dest=true)↔fitS x:=by
 unfold fitS reqOf
 simp only
 split
 ·rename_i h
  exact ⟨fun g=>⟨g.1,fun _=>g.2⟩,fun g=>⟨g.1,g.2 h⟩⟩
 ·rename_i h
  exact ⟨fun g=>⟨g.1,fun e=>absurd e h⟩,fun g=>⟨g.1,right_nil⟩⟩
theorem tell_fit {f:FsV} {x:Step} (hx:oneOf x=true) (h:fitS x):(doV f x).1.trace=f.trace++[⟨x.kind,x.path,if x.kind=5 then x.dest else [],(doV f x).2.2⟩]:=by
 obtain ⟨h1,h2⟩:=do_call f x hx
 rw [h1,h2]
 unfold callV
 rw [if_pos ((fit_req x).2 h)]
 simp only [ansOf]
 unfold reqOf
 simp only
 split <;> rfl
theorem tell_unfit {f:FsV} {x:Step} (hx:oneOf x=true) (h:¬ fitS x):(doV f x).1=f∧(doV f x).2.2=20:=by
 obtain ⟨h1,h2⟩:=do_call f x hx
 rw [h1,h2]
 unfold callV
 rw [if_neg (fun e=>h ((fit_req x).1 e))]
 exact ⟨rfl,rfl⟩
def shortT (l:List Call):Prop:=∀ x∈l,x.path.length≤1024∧x.dest.length≤1024
theorem fit_short {x:Step} (h:fitS x) (why:Int):(⟨x.kind,x.path,if x.kind=5 then x.dest else [],why⟩:Call).path.length≤1024∧(⟨x.kind,x.path,if x.kind=5 then x.dest else [],why⟩:Call).dest.length≤1024:=by
 have h1:=P.sumP_len x.path
 have h2:=P.rightB_sum h.1
 refine ⟨by simp only;omega,?_⟩
 simp only
 split
 ·rename_i h5
  have h3:=P.sumP_len x.dest
  have h4:=P.rightB_sum (h.2 h5)
  omega
 ·exact Nat.zero_le _
theorem do_short {f:FsV} {x:Step} (h:shortT f.trace):shortT (doV f x).1.trace:=by
 by_cases hx:oneOf x=true
 ·by_cases hf:fitS x
  ·rw [tell_fit hx hf]
   intro y hy
   rcases List.mem_append.1 hy with hy | hy
   ·exact h y hy
   ·rw [List.mem_singleton.1 hy]
    exact fit_short hf _
  ·rw [(tell_unfit hx hf).1]
   exact h
 ·have h0:doV f x=(f,told0 ⟨#[]⟩,0):=by
   simp only [oneOf,decide_eq_true_iff] at hx
   unfold doV
   rw [if_neg (by omega),if_neg (by omega),if_neg (by omega),if_neg (by omega),if_neg (by omega)]
  rw [h0]
  exact h
theorem trace_in (w:World) (g:Nat) (S:Nat→Prop) (f:FsV) (h:FsIn S w g f) (htl:f.trace.length≤1000000) (hs:shortT f.trace) :
  Calls Tryz.prog 15 #[.pointer (some ⟨g,0,none⟩)] w fun e w'=>∃ v,e=.returned v∧CallK.R 79 w' w.heap.size (fun _=>True) v f.trace∧Below w.heap.size w w':=by
 obtain ⟨O,tb,h1,_⟩:=h
 exact trace_api w g O tb f h1 htl fun x hx=>⟨by have:=(hs x hx).1;omega,by have:=(hs x hx).2;omega⟩
end Go.Proofs.YthlcjjhfkldmhaaGreatDoor.G
end
end
section
namespace Go.Proofs.YthlcjjhfkldmhaaGreatDoor.G
open Go.RowKit Go.Lib Go.Proofs.YthlcjjhfkldmhaaGreatDoorW.PrintWords Go.Proofs.YthlcjjhfkldmhaaGreatDoorW.PrintLast
set_option linter.unusedVariables false
set_option linter.unusedSimpArgs false
def bmE (n m:Nat):Array Bool:=((List.range n).map (fun j=>m.testBit j)).toArray
theorem set_block {W:World} {g:Nat} {cs:Array Value} {t:TypeId} (h:W.heap[g]? = some (.cells cs t (0,0))) (i:Nat) (u:Value):(W.setCell ⟨g,i,none⟩ u).heap[g]? = some (.cells (cs.setIfInBounds i u) t (0,0)):=heap_setCell_same W g i cs t u h
theorem store9 {W:World} {g a:Nat} {c0 c1 c2 c3 c4 c5 d0 d1 d2:Value} {F T:TypeId} (hg:W.heap[g]? = some (.cells #[c0,c1,c2,c3,c4,c5] F (0,0))) (ha:W.heap[a]? = some (.cells #[d0,d1,d2] T (0,0))) (hne:g≠a) (v0 v1 v2 v3 v4 v5 u0 u1 u2:Value) :
  (((((((((W.setCell ⟨g,0,none⟩ v0).setCell ⟨g,1,none⟩ v1).setCell ⟨g,2,none⟩ v2).setCell ⟨g,3,none⟩ v3).setCell ⟨g,4,none⟩ v4).setCell ⟨g,5,none⟩ v5).setCell ⟨a,0,none⟩ u0).setCell ⟨a,1,none⟩ u1).setCell ⟨a,2,none⟩ u2).heap[g]? = some (.cells #[v0,v1,v2,v3,v4,v5] F (0,0)) ∧
  (((((((((W.setCell ⟨g,0,none⟩ v0).setCell ⟨g,1,none⟩ v1).setCell ⟨g,2,none⟩ v2).setCell ⟨g,3,none⟩ v3).setCell ⟨g,4,none⟩ v4).setCell ⟨g,5,none⟩ v5).setCell ⟨a,0,none⟩ u0).setCell ⟨a,1,none⟩ u1).setCell ⟨a,2,none⟩ u2).heap[a]? = some (.cells #[u0,u1,u2] T (0,0)) ∧
  Only (fun k=>k=g∨k=a) W (((((((((W.setCell ⟨g,0,none⟩ v0).setCell ⟨g,1,none⟩ v1).setCell ⟨g,2,none⟩ v2).setCell ⟨g,3,none⟩ v3).setCell ⟨g,4,none⟩ v4).setCell ⟨g,5,none⟩ v5).setCell ⟨a,0,none⟩ u0).setCell ⟨a,1,none⟩ u1).setCell ⟨a,2,none⟩ u2):=by
 have o:∀ {X:World} (b i:Nat) (u:Value) (k:Nat),k≠b→(X.setCell ⟨b,i,none⟩ u).heap[k]? = X.heap[k]? := fun b i u k hk=>Below.heap_setCell _ _ _ _ (by simpa using hk)
 refine ⟨?_,?_,?_⟩
 ·have h:=set_block (set_block (set_block (set_block (set_block (set_block hg 0 v0) 1 v1) 2 v2) 3 v3) 4 v4) 5 v5
  exact (o a 2 u2 g hne).trans ((o a 1 u1 g hne).trans ((o a 0 u0 g hne).trans h))
 ·have ha6:=(o g 5 v5 a (Ne.symm hne)).trans ((o g 4 v4 a (Ne.symm hne)).trans ((o g 3 v3 a (Ne.symm hne)).trans ((o g 2 v2 a (Ne.symm hne)).trans ((o g 1 v1 a (Ne.symm hne)).trans ((o g 0 v0 a (Ne.symm hne)).trans ha)))))
  exact set_block (set_block (set_block ha6 0 u0) 1 u1) 2 u2
 ·have st:∀ {X:World} (b i:Nat) (u:Value),(b=g∨b=a)→Only (fun k=>k=g∨k=a) W X→Only (fun k=>k=g∨k=a) W (X.setCell ⟨b,i,none⟩ u):=fun b i u hb h=>h.trans (Only.setCell _ _ _) (fun _ _ h=>h) (fun k _ e=>by have e':k=b:=e;rw [e'];exact hb)
  exact st a 2 u2 (.inr rfl) (st a 1 u1 (.inr rfl) (st a 0 u0 (.inr rfl) (st g 5 v5 (.inl rfl) (st g 4 v4 (.inl rfl) (st g 3 v3 (.inl rfl) (st g 2 v2 (.inl rfl) (st g 1 v1 (.inl rfl) (st g 0 v0 (.inl rfl) (Only.refl _ _)))))))))
theorem store8 {W:World} {o b c:Nat} {o0 o1 o2 o3 o4 o5 b0 b1 b2 y0 y1 y2 y3:Value} {F T K:TypeId} (ho:W.heap[o]? = some (.cells #[o0,o1,o2,o3,o4,o5] F (0,0))) (hb:W.heap[b]? = some (.cells #[b0,b1,b2] T (0,0))) (hc:W.heap[c]? = some (.cells #[y0,y1,y2,y3] K (0,0))) (n1:o≠b) (n2:o≠c) (n3:b≠c) (v0 v1 v2 v3 u0 u1 u2 y:Value) :
  ((((((((W.setCell ⟨o,0,none⟩ v0).setCell ⟨o,1,none⟩ v1).setCell ⟨o,2,none⟩ v2).setCell ⟨o,3,none⟩ v3).setCell ⟨b,0,none⟩ u0).setCell ⟨b,1,none⟩ u1).setCell ⟨b,2,none⟩ u2).setCell ⟨c,3,none⟩ y).heap[o]? = some (.cells #[v0,v1,v2,v3,o4,o5] F (0,0))∧((((((((W.setCell ⟨o,0,none⟩ v0).setCell ⟨o,1,none⟩ v1).setCell ⟨o,2,none⟩ v2).setCell ⟨o,3,none⟩ v3).setCell ⟨b,0,none⟩ u0).setCell ⟨b,1,none⟩ u1).setCell ⟨b,2,none⟩ u2).setCell ⟨c,3,none⟩ y).heap[b]? = some (.cells #[u0,u1,u2] T (0,0))∧((((((((W.setCell ⟨o,0,none⟩ v0).setCell ⟨o,1,none⟩ v1).setCell ⟨o,2,none⟩ v2).setCell ⟨o,3,none⟩ v3).setCell ⟨b,0,none⟩ u0).setCell ⟨b,1,none⟩ u1).setCell ⟨b,2,none⟩ u2).setCell ⟨c,3,none⟩ y).heap[c]? = some (.cells #[y0,y1,y2,y] K (0,0))∧Only (fun k=>k=o∨k=b∨k=c) W ((((((((W.setCell ⟨o,0,none⟩ v0).setCell ⟨o,1,none⟩ v1).setCell ⟨o,2,none⟩ v2).setCell ⟨o,3,none⟩ v3).setCell ⟨b,0,none⟩ u0).setCell ⟨b,1,none⟩ u1).setCell ⟨b,2,none⟩ u2).setCell ⟨c,3,none⟩ y):=by
 have oo:∀ {X:World} (k g i:Nat) (u:Value),k≠g→(X.setCell ⟨g,i,none⟩ u).heap[k]? = X.heap[k]? := fun k g i u hk=>Below.heap_setCell _ _ _ _ (by simpa using hk)
 refine ⟨?_,?_,?_,?_⟩
 ·have h:=set_block (set_block (set_block (set_block ho 0 v0) 1 v1) 2 v2) 3 v3
  exact (oo o c 3 y n2).trans ((oo o b 2 u2 n1).trans ((oo o b 1 u1 n1).trans ((oo o b 0 u0 n1).trans h)))
 ·have h4:=(oo b o 3 v3 (Ne.symm n1)).trans ((oo b o 2 v2 (Ne.symm n1)).trans ((oo b o 1 v1 (Ne.symm n1)).trans ((oo b o 0 v0 (Ne.symm n1)).trans hb)))
  exact (oo b c 3 y n3).trans (set_block (set_block (set_block h4 0 u0) 1 u1) 2 u2)
 ·have h4:=(oo c o 3 v3 (Ne.symm n2)).trans ((oo c o 2 v2 (Ne.symm n2)).trans ((oo c o 1 v1 (Ne.symm n2)).trans ((oo c o 0 v0 (Ne.symm n2)).trans hc)))
  have h7:=(oo c b 2 u2 (Ne.symm n3)).trans ((oo c b 1 u1 (Ne.symm n3)).trans ((oo c b 0 u0 (Ne.symm n3)).trans h4))
  exact set_block h7 3 y
 ·have st:∀ {X:World} (g i:Nat) (u:Value),(g=o∨g=b∨g=c)→Only (fun k=>k=o∨k=b∨k=c) W X→Only (fun k=>k=o∨k=b∨k=c) W (X.setCell ⟨g,i,none⟩ u):=fun g i u hg h=>h.trans (Only.setCell _ _ _) (fun _ _ h=>h) (fun k _ e=>by have e':k=g:=e;rw [e'];exact hg)
  exact st c 3 y (.inr (.inr rfl)) (st b 2 u2 (.inr (.inl rfl)) (st b 1 u1 (.inr (.inl rfl)) (st b 0 u0 (.inr (.inl rfl)) (st o 3 v3 (.inl rfl) (st o 2 v2 (.inl rfl) (st o 1 v1 (.inl rfl) (st o 0 v0 (.inl rfl) (Only.refl _ _))))))))
theorem store6_other (W:World) {g k:Nat} (hk:k≠g) (v0 v1 v2 v3 v4 v5:Value):((((((W.setCell ⟨g,0,none⟩ v0).setCell ⟨g,1,none⟩ v1).setCell ⟨g,2,none⟩ v2).setCell ⟨g,3,none⟩ v3).setCell ⟨g,4,none⟩ v4).setCell ⟨g,5,none⟩ v5).heap[k]? = W.heap[k]? := by
 have o:∀ {X:World} (i:Nat) (u:Value),(X.setCell ⟨g,i,none⟩ u).heap[k]? = X.heap[k]? := fun i u=>Below.heap_setCell _ _ _ _ (by simpa using hk)
 exact (o 5 v5).trans ((o 4 v4).trans ((o 3 v3).trans ((o 2 v2).trans ((o 1 v1).trans (o 0 v0)))))
theorem store3_other (W:World) {g k:Nat} (hk:k≠g) (v0 v1 v2:Value):(((W.setCell ⟨g,0,none⟩ v0).setCell ⟨g,1,none⟩ v1).setCell ⟨g,2,none⟩ v2).heap[k]? = W.heap[k]? := by
 have o:∀ {X:World} (i:Nat) (u:Value),(X.setCell ⟨g,i,none⟩ u).heap[k]? = X.heap[k]? := fun i u=>Below.heap_setCell _ _ _ _ (by simpa using hk)
 exact (o 2 v2).trans ((o 1 v1).trans (o 0 v0))
theorem callC_box {W:World} {g:Nat} {y:Call} {cs:Array Value} {t:TypeId} (h:W.heap[g]? = some (.cells cs t (0,0))) (hk:CallK.K W y cs.toList):CallK.C W (some ⟨g,0,none⟩) 1 [y]:=by
 refine ⟨rfl,by omega,fun _=>⟨_,rfl,fun j p hj => ?_⟩⟩
 cases j with
 | succ j=>simp at hj
 | zero =>
  obtain rfl:y=p:=by simpa using hj
  exact ⟨cs.toList,CallK.K_len hk,hk,fun i u hu=>by
   rw [show (⟨g,0,none⟩:Addr).add (0 * CallK.sz+i)=⟨g,i,none⟩ by rw [Nat.zero_mul,Nat.zero_add,add_at4]]
   exact cell_of h (by simpa using hu)⟩
theorem copiedP (A:Option Addr) (c:Nat) (l:List Call) (w:World) (hr:CallK.C w A l.length l) (hc:l.length≤c) (hl:l.length≤1000000) (hpl:∀ x∈l,x.path.length≤1099511627776∧x.dest.length≤1099511627776) :
  Calls Tryz.prog 32 #[.slice A l.length c] w fun e w'=>∃ A' c',e=.returned (.slice A' l.length c')∧CallK.R 79 w' w.heap.size (fun _=>True) (.slice A' l.length c') l∧Below w.heap.size w w':=by
 refine (copied_calls A c l w hr hc hl hpl).mono ?_
 rintro e w' ⟨v,rfl,hR,hb⟩
 obtain ⟨A',c',rfl⟩:=Kd.R_slice hR
 exact ⟨A',c',rfl,hR,hb⟩
theorem rcopyP (A:Option Addr) (c:Nat) (l:List ByteArray) (w:World) (hr:Kd.C Kd.string w A l.length l) (hc:l.length≤c) (hl:l.length≤4398046511104) :
  Calls Tryz.prog 29 #[.slice A l.length c] w fun e w'=>∃ A' c',e=.returned (.slice A' l.length c')∧l.length≤c'∧Kd.R Kd.string 9 w' w.heap.size (fun _=>True) (.slice A' l.length c') l∧Below w.heap.size w w':=by
 refine (P.rcopy_calls A c l w hr hc hl).mono ?_
 rintro e w' ⟨v,rfl,hR,hb⟩
 obtain ⟨A',c',rfl⟩:=Kd.R_slice hR
 exact ⟨A',c',rfl,(Kd.R_reads' hR).2.1,hR,hb⟩
set_option maxHeartbeats 8000000 in
set_option maxRecDepth 100000 in
theorem rDoN_calls (t:File) (A:Option Addr) (c:Nat) (l:List Int) (Al:Option Addr) (cl:Nat) (tr:List Call) (At:Option Addr) (ct:Nat) (x:Step) (hx:oneOf x=true) (hk5:¬ x.kind=5) (A1 B1:Option Addr) (c1 d1:Nat) (w:World) (ht:FileK.C w A t.files.length t.files) (hc:t.files.length≤c) (hbt:t.bulk≤100000000) (hr:rightT t=true) (hl:Kd.C (Kd.int .i64) w Al l.length l) (hcl:l.length≤cl) (hll:l.length≤1099511627776) (htr:CallK.C w At tr.length tr) (hct:tr.length≤ct) (htl:tr.length≤900000) (hsh:shortT tr) (hp:Kd.C Kd.string w A1 x.path.length x.path) (hcp1:x.path.length≤c1) (hps:P.sumP x.path≤50000000) (hq:Kd.C Kd.string w B1 x.dest.length x.dest) (hdq1:x.dest.length≤d1) (hqs:P.sumP x.dest≤50000000) (hxd:x.data.size≤100000000) :
  Calls Tryz.prog 10 #[.agg #[.string t.name,.int .u8 t.kind,.string t.data,.slice A t.files.length c,.slice Al l.length cl,.slice At tr.length ct],.agg #[.int .u8 x.kind,.slice A1 x.path.length c1,.slice B1 x.dest.length d1,.string x.data]] w fun e w'=>∃ A' c' At' ct',e=.returned (.tuple #[.agg #[.string (doV ⟨t,tr,l⟩ x).1.tree.name,.int .u8 (doV ⟨t,tr,l⟩ x).1.tree.kind,.string (doV ⟨t,tr,l⟩ x).1.tree.data,.slice A' (doV ⟨t,tr,l⟩ x).1.tree.files.length c',.slice Al l.length cl,.slice At' (doV ⟨t,tr,l⟩ x).1.trace.length ct'],.agg #[.int .u8 (doV ⟨t,tr,l⟩ x).2.1.kind,.int .i64 (doV ⟨t,tr,l⟩ x).2.1.size,.string (doV ⟨t,tr,l⟩ x).2.1.data],.int .i64 (doV ⟨t,tr,l⟩ x).2.2])∧(doV ⟨t,tr,l⟩ x).1.tree.files.length≤c'∧(doV ⟨t,tr,l⟩ x).1.trace.length≤ct'∧(∀ W':World,FileK.C W' A t.files.length t.files→CallK.C W' At tr.length tr→(∀ k,w.heap.size≤k→k<w'.heap.size→W'.heap[k]? = w'.heap[k]?)→FileK.C W' A' (doV ⟨t,tr,l⟩ x).1.tree.files.length (doV ⟨t,tr,l⟩ x).1.tree.files∧CallK.C W' At' (doV ⟨t,tr,l⟩ x).1.trace.length (doV ⟨t,tr,l⟩ x).1.trace)∧Below w.heap.size w w':=by
 have h4:=four_all w (.cells #[.string t.name,.int .u8 t.kind,.string t.data,.slice A t.files.length c,.slice Al l.length cl,.slice At tr.length ct] 36) (.cells #[.int .u8 x.kind,.slice A1 x.path.length c1,.slice B1 x.dest.length d1,.string x.data] 42) (.cells #[.string ⟨#[]⟩,.int .u8 0,.string ⟨#[]⟩,.slice none 0 0,.slice none 0 0,.slice none 0 0] 36) (.cells #[.int .u8 0,.int .i64 0,.string ⟨#[]⟩] 46)
 have I:=Lib.hid (Hd.base h4.2.2.2.2 (by first | exact Nat.le_refl _ | exact Below.size h4.2.2.2.2))
 replace I:=Lib.hid (Hd.and I.out (Hd.box (h4.1)))
 replace I:=Lib.hid (Hd.and I.out (Hd.box (h4.2.1)))
 replace I:=Lib.hid (Hd.and I.out (Hd.box (h4.2.2.1)))
 replace I:=Lib.hid (Hd.and I.out (Hd.box (h4.2.2.2.1)))
 replace I:=Lib.hid (Hd.and I.out (Hd.reads (Kd.C_below ht h4.2.2.2.2)))
 replace I:=Lib.hid (Hd.and I.out (Hd.reads (Kd.C_below hl h4.2.2.2.2)))
 replace I:=Lib.hid (Hd.and I.out (Hd.reads (Kd.C_below htr h4.2.2.2.2)))
 replace I:=Lib.hid (Hd.and I.out (Hd.reads (Kd.C_below hp h4.2.2.2.2)))
 replace I:=Lib.hid (Hd.and I.out (Hd.reads (Kd.C_below hq h4.2.2.2.2)))
 have hs4:w.heap.size+3<((((w.alloc (.cells #[.string t.name,.int .u8 t.kind,.string t.data,.slice A t.files.length c,.slice Al l.length cl,.slice At tr.length ct] 36)).alloc (.cells #[.int .u8 x.kind,.slice A1 x.path.length c1,.slice B1 x.dest.length d1,.string x.data] 42)).alloc (.cells #[.string ⟨#[]⟩,.int .u8 0,.string ⟨#[]⟩,.slice none 0 0,.slice none 0 0,.slice none 0 0] 36)).alloc (.cells #[.int .u8 0,.int .i64 0,.string ⟨#[]⟩] 46)).heap.size:=blk_lt h4.2.2.2.1
 have HT0:=Lib.hid (fun W (h:Below w.heap.size w W)=>(⟨Kd.C_below ht h,Kd.C_below htr h⟩:FileK.C W A t.files.length t.files∧CallK.C W At tr.length tr))
 have HL0:=Lib.hid (fun W (h:Below w.heap.size w W)=>(⟨Kd.C_below hl h,Kd.C_below hp h,Kd.C_below hq h⟩:Kd.C (Kd.int .i64) W Al l.length l∧Kd.C Kd.string W A1 x.path.length x.path∧Kd.C Kd.string W B1 x.dest.length x.dest))
 have HRT:=Lib.hid hr
 have HOX:=Lib.hid hx
 obtain ⟨⟨⟨ft,fr,ff⟩,fa,fw⟩,hres⟩:∃ r,doV ⟨t,tr,l⟩ x=r:=⟨_,rfl⟩
 rw [hres]
 simp only
 have HR:=Lib.hid hres
 have hpl:=P.sumP_len x.path
 have hql:=P.sumP_len x.dest
 have HK5:=Lib.hid hk5
 have hkb:(x.kind != 5)=true:=bne_iff_ne.2 hk5
 have hkc:(x.kind == 5)=false:=beq_eq_false_iff_ne.2 hk5
 clear hres ht hl htr hp hq h4 hr hx hk5
 go_enter Tryz.func10,Tryz.ntmps10
 obtain ⟨lx0,lx1,lx2,lx3⟩:=c4A I.out.now.2.2.2.2.2.2.2.1
 go_wp2_with fail
 clear lx0 lx1 lx2 lx3
 generalize ((((w.alloc (.cells #[.string t.name,.int .u8 t.kind,.string t.data,.slice A t.files.length c,.slice Al l.length cl,.slice At tr.length ct] 36)).alloc (.cells #[.int .u8 x.kind,.slice A1 x.path.length c1,.slice B1 x.dest.length d1,.string x.data] 42)).alloc (.cells #[.string ⟨#[]⟩,.int .u8 0,.string ⟨#[]⟩,.slice none 0 0,.slice none 0 0,.slice none 0 0] 36)).alloc (.cells #[.int .u8 0,.int .i64 0,.string ⟨#[]⟩] 46))=W0 at *
 refine (P.rright_calls A1 c1 x.path W0 I.out.now.2.1 hcp1 (by omega) (by omega)).mono ?_
 rintro e w1 ⟨rfl,hw1⟩
 obtain rfl:w1=W0:=hw1
 obtain ⟨b1,hb1⟩:∃ b,P.rightB x.path=b:=⟨_,rfl⟩
 have HB1:=Lib.hid hb1
 rw [hb1]
 clear hb1
 cases b1
 ·skip
  have HE:Hid ((⟨t,tr,l⟩,told0 ⟨#[]⟩,20)=((⟨ft,fr,ff⟩,fa,fw):FsV×Told×Int)):=Lib.hid ((doV_unfit HOX.out (fun h=>by have:=HB1.out;rw [h.1] at this;cases this)).symm.trans HR.out)
  injection HE.out with he1 he2
  injection he1 with he3 he4 he5
  injection he2 with he6 he7
  subst he3 he4 he5 he6 he7
  clear HE
  obtain ⟨lf0,lf1,lf2,lf3,lf4,lf5⟩:=c6A I.out.now.2.2.2.2.2.2.2.2.1
  obtain ⟨lx0,lx1,lx2,lx3⟩:=c4A I.out.now.2.2.2.2.2.2.2.1
  have HZ:w1.heap[w.heap.size+2]? = some (.cells #[.string ⟨#[]⟩,.int .u8 0,.string ⟨#[]⟩,.slice none 0 0,.slice none 0 0,.slice none 0 0] 36 (0,0)):=I.out.now.2.2.2.2.2.2.1
  have HA:w1.heap[w.heap.size+3]? = some (.cells #[.int .u8 0,.int .i64 0,.string ⟨#[]⟩] 46 (0,0)):=I.out.now.2.2.2.2.2.1
  have HST:=Lib.hid (store9 HZ HA (by omega) (.string t.name) (.int .u8 t.kind) (.string t.data) (.slice A t.files.length c) (.slice Al l.length cl) (.slice At tr.length ct) (.int .u8 0) (.int .i64 0) (.string ⟨#[]⟩))
  have HBV:=Lib.hid (I.out.now.2.2.2.2.2.2.2.2.2.trans (HST.out.2.2.below (B:=w.heap.size) (by have:=Below.size I.out.now.2.2.2.2.2.2.2.2.2;omega) (fun k hk e=>by omega)))
  obtain ⟨z0,z1,z2,z3,z4,z5⟩:=c6A HZ
  obtain ⟨u0,u1,u2,u3,u4,u5⟩:=u6A HZ
  obtain ⟨y0,y1,y2⟩:=c3A HA
  obtain ⟨n0,n1,n2⟩:=u3A HA
  go_wp2_with fail
  refine bodyPost_ret (results_cct rfl _ _ (w.heap.size+2) (w.heap.size+3) 36 46 #[.string t.name,.int .u8 t.kind,.string t.data,.slice A t.files.length c,.slice Al l.length cl,.slice At tr.length ct] #[.int .u8 0,.int .i64 0,.string ⟨#[]⟩] (0,0) (0,0) _ _ rfl HST.out.1 Tryz.underlying36 rfl (by kernel_rfl) rfl HST.out.2.1 Tryz.underlying46 rfl (by kernel_rfl)) rfl ?_
  exact ⟨A,c,At,ct,rfl,hc,hct,fun _ h1 h2 _=>⟨h1,h2⟩,HBV.out⟩
 have HFIT:=Lib.hid (show fitR x from ⟨HB1.out,fun h=>absurd h HK5.out⟩)
 obtain ⟨lx0,lx1,lx2,lx3⟩:=c4A I.out.now.2.2.2.2.2.2.2.1
 go_wp2_with fail
 clear lx0 lx1 lx2 lx3
 refine start_ (n:=8) (S:=fun w'=>w'.heap[w.heap.size+1]? = some (.cells #[.int .u8 x.kind,.slice A1 x.path.length c1,.slice B1 x.dest.length d1,.string x.data] 42 (0,0))) (ds:=[7]) (bmE 8 0) (by kernel_rfl) rfl rfl (I.out _ (bdrew (Below.refl w1.heap.size w1))).2.2.2.2.2.2.2.1 (fun hHeld => ?_)
 refine pA 0 31 (bmE 8 1) ?_
 refine pA 2 33 (bmE 8 5) ?_
 refine tA 1 32 (bmE 8 7) hHeld ?_ (hy:=by
  rintro w' s0
  have q0:=cell_of (j:=0) s0 rfl
  go_simp
  with_reducible rfl)
 refine tA 3 34 (bmE 8 15) hHeld ?_ (hy:=by
  rintro w' s0
  have q1:=cell_of (j:=1) s0 rfl
  go_simp
  with_reducible rfl)
 refine join_ (σ:=(Option Addr×Nat)×Nat) 1 (bmE 8 127) (fun s=>match s with | ((A4,c4),g6)=>[(35,.slice A4 x.path.length c4),(36,.agg #[.int .u8 x.kind,.slice A4 x.path.length c4,.slice none 0 0,.int .i64 42]),(9,.pointer (some ⟨g6,0,none⟩))]) (fun s W=>match s with | ((A4,c4),g6)=>Below w1.heap.size w1 W∧w1.heap.size≤g6∧W.heap[g6]? = some (.cells #[.int .u8 0,.slice none 0 0,.slice none 0 0,.int .i64 0] 79 (0,0))∧x.path.length≤c4∧Kd.R Kd.string 9 W w1.heap.size (fun _=>True) (.slice A4 x.path.length c4) x.path) ?_ ?_
 rotate_left
 ·intro hc0
  refine join_ (σ:=(Option Addr×Nat)) 2 (bmE 8 63) (fun s=>match s with | (A4,c4)=>[(35,.slice A4 x.path.length c4),(36,.agg #[.int .u8 x.kind,.slice A4 x.path.length c4,.slice none 0 0,.int .i64 42])]) (fun s W=>match s with | (A4,c4)=>Below w1.heap.size w1 W∧x.path.length≤c4∧Kd.R Kd.string 9 W w1.heap.size (fun _=>True) (.slice A4 x.path.length c4) x.path) ?_ ?_
  ·rintro ⟨A4,c4⟩ V hF
   obtain ⟨hb,hc4,hr4⟩:=hF
   refine uA ?_
   refine eA 6 9 (bmE 8 127) (fun K hK => ?_)
   have ha:=below_alloc (Below.refl V.heap.size V) (.cells #[.int .u8 0,.slice none 0 0,.slice none 0 0,.int .i64 0] 79)
   have hbn:=below_alloc hb (.cells #[.int .u8 0,.slice none 0 0,.slice none 0 0,.int .i64 0] 79)
   refine vA ?_
   refine hK.out _ _ ((I.out _ hbn).2.2.2.2.2.2.2.1) (fun hHeld => ?_)
   refine nA 9 ?_
   refine jA (hc0 ((A4,c4),V.heap.size) _ (⟨hbn,hb.size,blk_new V (.cells #[.int .u8 0,.slice none 0 0,.slice none 0 0,.int .i64 0] 79),hc4,Kd.R_below hr4 ha⟩))
  intro hc1
  refine join_ (σ:=Nat) 3 (bmE 8 79) (fun s=>match s with | g6=>[(9,.pointer (some ⟨g6,0,none⟩))]) (fun s W=>match s with | g6=>Below w1.heap.size w1 W∧w1.heap.size≤g6∧W.heap[g6]? = some (.cells #[.int .u8 0,.slice none 0 0,.slice none 0 0,.int .i64 0] 79 (0,0))) ?_ ?_
  ·rintro g6 V hF
   obtain ⟨hb,hl6,hz6⟩:=hF
   refine uA ?_
   refine eA 4 35 (bmE 8 95) (fun K hK => ?_)
   refine gA Tryz.func29 #[.slice A1 x.path.length c1] ?_
   refine (rcopyP A1 c1 x.path _ (I.out _ hb).2.1 hcp1 (by omega)).mono ?_
   rintro e w5 ⟨A4,c4,rfl,hc4,hR,hq5⟩
   refine ⟨_,rfl,?_⟩
   have hbn:=hb.trans (hq5.mono hb.size)
   refine hK.out _ _ ((I.out _ hbn).2.2.2.2.2.2.2.1) (fun hHeld => ?_)
   refine nA 35 ?_
   refine pA 5 36 (bmE 8 127) ?_
   refine jA (hc0 ((A4,c4),g6) _ (⟨hbn,hl6,(hq5.block _ (blk_lt hz6)).trans hz6,hc4,Kd.R_lower hR hb.size⟩))
  intro hc2
  have hb:Below w1.heap.size w1 w1.drew:=bdrew (Below.refl _ _)
  generalize hVV:w1.drew=V at *
  refine two_ (i:=4) (j:=6) (Ni:=some 35) (Nj:=some 9) (bmE 8 31) (bmE 8 79) rfl rfl rfl rfl (by kernel_rfl) (by decide) (by decide) (fun K hK => ?_) (fun K hK => ?_)
  ·refine gA Tryz.func29 #[.slice A1 x.path.length c1] ?_
   refine (rcopyP A1 c1 x.path _ (I.out _ hb).2.1 hcp1 (by omega)).mono ?_
   rintro e w5 ⟨A4,c4,rfl,hc4,hR,hq5⟩
   refine ⟨_,rfl,?_⟩
   have hbn:=hb.trans (hq5.mono hb.size)
   refine hK.out _ _ ((I.out _ hbn).2.2.2.2.2.2.2.1) (fun hHeld => ?_)
   refine nA 35 ?_
   refine pA 5 36 (bmE 8 63) ?_
   refine jA (hc1 (A4,c4) _ (⟨hbn,hc4,Kd.R_lower hR hb.size⟩))
  ·have ha:=below_alloc (Below.refl V.heap.size V) (.cells #[.int .u8 0,.slice none 0 0,.slice none 0 0,.int .i64 0] 79)
   have hbn:=below_alloc hb (.cells #[.int .u8 0,.slice none 0 0,.slice none 0 0,.int .i64 0] 79)
   refine vA ?_
   refine hK.out _ _ ((I.out _ hbn).2.2.2.2.2.2.2.1) (fun hHeld => ?_)
   refine nA 9 ?_
   refine jA (hc2 V.heap.size _ (⟨hbn,hb.size,blk_new V (.cells #[.int .u8 0,.slice none 0 0,.slice none 0 0,.int .i64 0] 79)⟩))
 ·rintro ⟨⟨A4,c4⟩,g6⟩ V hF
  obtain ⟨hb,hl6,hz6,hc4,hr4⟩:=hF
  refine uA ?_
  have HC6:=Lib.hid (store4_box hz6 (.int .u8 x.kind) (.slice A4 x.path.length c4) (.slice none 0 0) (.int .i64 42))
  obtain ⟨z0,z1,z2,z3⟩:=c4A hz6
  obtain ⟨u0,u1,u2,u3⟩:=u4A hz6
  refine last_ (i:=7) (N:=none) (bmE 8 255) rfl rfl (by kernel_rfl) (by decide) (fun K hK => ?_)
  refine sA ?_
  refine hK.out _ _ ?_
  refine done_ (by kernel_rfl) ?_
  have hbc:=store4_below hb hl6 (.int .u8 x.kind) (.slice A4 x.path.length c4) (.slice none 0 0) (.int .i64 42)
  have htq:∀ q,q∈9 :: (Kd.string).E→q≠79:=fun q hq=>by
   rcases List.mem_cons.1 hq with rfl | hq
   ·decide
   ·cases hq
  have b1:=set_block hz6 0 (.int .u8 x.kind)
  have b2:=set_block b1 1 (.slice A4 x.path.length c4)
  have b3:=set_block b2 2 (.slice none 0 0)
  have HR9:=Lib.hid (Kd.R_set (Kd.R_set (Kd.R_set (Kd.R_set hr4 hz6 htq 0 (.int .u8 x.kind)) b1 htq 1 (.slice A4 x.path.length c4)) b2 htq 2 (.slice none 0 0)) b3 htq 3 (.int .i64 42))
  clear hb hz6 hr4 b1 b2 b3 z0 z1 z2 z3 u0 u1 u2 u3 hHeld
  replace I:=Lib.hid (Hd.mv I.out hbc)
  replace I:=Lib.hid (Hd.and I.out (Hd.box (HC6.out)))
  replace I:=Lib.hid (Hd.and I.out (Hd.rows (show Kd.R Kd.string 9 ((((V.setCell ⟨g6,0,none⟩ (.int .u8 x.kind)).setCell ⟨g6,1,none⟩ (.slice A4 x.path.length c4)).setCell ⟨g6,2,none⟩ (.slice none 0 0)).setCell ⟨g6,3,none⟩ (.int .i64 42)) w1.heap.size (fun k=>w1.heap.size≤k∧k<((((V.setCell ⟨g6,0,none⟩ (.int .u8 x.kind)).setCell ⟨g6,1,none⟩ (.slice A4 x.path.length c4)).setCell ⟨g6,2,none⟩ (.slice none 0 0)).setCell ⟨g6,3,none⟩ (.int .i64 42)).heap.size∧k≠g6) (.slice A4 x.path.length c4) x.path from Kd.R_mono (Kd.R_bound HR9.out) (fun k hk=>⟨hk.2.1,hk.2.2.1,fun e=>by obtain ⟨q,hq,cells,hc⟩:=hk.2.2.2;rw [e,HC6.out] at hc;injection hc with hc;injection hc with _ hc;exact htq q hq hc.symm⟩))))
  have hg6:=blk_lt HC6.out
  clear HC6 HR9 hbc
  generalize ((((V.setCell ⟨g6,0,none⟩ (.int .u8 x.kind)).setCell ⟨g6,1,none⟩ (.slice A4 x.path.length c4)).setCell ⟨g6,2,none⟩ (.slice none 0 0)).setCell ⟨g6,3,none⟩ (.int .i64 42))=W9 at *
  have hbW9:=I.out.now.2.2.2.2.2.2.2.2.2.2.2
  have hws:w.heap.size+3<w1.heap.size:=hs4
  obtain ⟨lf0,lf1,lf2,lf3,lf4,lf5⟩:=c6A I.out.now.2.2.2.2.2.2.2.2.2.2.1
  obtain ⟨lx0,lx1,lx2,lx3⟩:=c4A I.out.now.2.2.2.2.2.2.2.2.2.1
  clear hbW9
  have ha1:=below_alloc (Below.refl W9.heap.size W9) (.cells #[.string t.name,.int .u8 t.kind,.string t.data,.slice A t.files.length c,.slice Al l.length cl,.slice At tr.length ct] 36)
  replace I:=Lib.hid (Hd.mv I.out ha1)
  replace I:=Lib.hid (Hd.and I.out (Hd.box (blk_new W9 (.cells #[.string t.name,.int .u8 t.kind,.string t.data,.slice A t.files.length c,.slice Al l.length cl,.slice At tr.length ct] 36))))
  obtain ⟨W10,hWW10⟩:∃ W,(W9.alloc (.cells #[.string t.name,.int .u8 t.kind,.string t.data,.slice A t.files.length c,.slice Al l.length cl,.slice At tr.length ct] 36))=W:=⟨_,rfl⟩
  rw [hWW10] at I
  have hgo:=blk_lt I.out.now.1
  have hgo2:W9.heap.size<W10.heap.size:=by rw [← hWW10];simp
  have ha2:=below_alloc (Below.refl W10.heap.size W10) (.cells #[.int .u8 0,.int .i64 0,.string ⟨#[]⟩] 46)
  replace I:=Lib.hid (Hd.mv I.out ha2)
  replace I:=Lib.hid (Hd.and I.out (Hd.box (blk_new W10 (.cells #[.int .u8 0,.int .i64 0,.string ⟨#[]⟩] 46))))
  have hgb:=blk_lt I.out.now.1
  obtain ⟨mf0,mf1,mf2,mf3,mf4,mf5⟩:=c6A I.out.now.2.2.2.2.2.2.2.2.2.2.2.2.1
  go_wp2_with fail
  clear lf0 lf1 lf2 lf3 lf4 lf5
  clear lx0 lx1 lx2 lx3
  clear mf0 mf1 mf2 mf3 mf4 mf5
  generalize (W10.alloc (.cells #[.int .u8 0,.int .i64 0,.string ⟨#[]⟩] 46))=W11 at *
  refine (has_calls Al cl l tr.length W11 I.out.now.2.2.2.2.2.2.2.1 hcl (by omega)).mono ?_
  rintro e w12 ⟨rfl,hw12⟩
  obtain rfl:w12=W11:=hw12
  obtain ⟨b3,hb3⟩:∃ b,decide ((tr.length:Int)∈l)=b:=⟨_,rfl⟩
  have HB3:=Lib.hid hb3
  rw [hb3]
  clear hb3
  have hlh:=hll
  cases b3
  rotate_left
  ·skip
   have HE:=(doV_fault (f:=⟨t,tr,l⟩) HOX.out HFIT.out (of_decide_eq_true HB3.out)).symm.trans HR.out
   rw [if_neg HK5.out] at HE
   injection HE with he1 he2
   injection he1 with he3 he4 he5
   injection he2 with he6 he7
   subst he3 he5 he6 he7
   have HTR2:=Lib.hid he4
   have HUF:Hid (∀ W':World,FileK.C W' A t.files.length t.files→(∀ k,w12.heap.size≤k→k<w12.heap.size→W'.heap[k]? = w12.heap[k]?)→FileK.C W' A t.files.length t.files):=Lib.hid (fun _ h _=>h)
   clear he4
   obtain ⟨lf0,lf1,lf2,lf3,lf4,lf5⟩:=c6A I.out.now.2.2.2.2.2.2.2.2.2.2.2.2.1
   obtain ⟨lc0,lc1,lc2,lc3⟩:=c4A I.out.now.2.2.2.1
   obtain ⟨lb0,lb1,lb2⟩:=c3A I.out.now.1
   go_wp2_with fail
   have hWW:W9.heap.size<w12.heap.size∧W10.heap.size<w12.heap.size:=⟨by omega,by omega⟩
   refine start_ (n:=8) (S:=fun w'=>w'.heap[w.heap.size]? = some (.cells #[.string t.name,.int .u8 t.kind,.string t.data,.slice A t.files.length c,.slice Al l.length cl,.slice At tr.length ct] 36 (0,0))∧w'.heap[g6]? = some (.cells #[.int .u8 x.kind,.slice A4 x.path.length c4,.slice none 0 0,.int .i64 42] 79 (0,0))) (ds:=[7]) (bmE 8 0) (by kernel_rfl) rfl rfl ⟨(I.out _ (bdrew (Below.refl w12.heap.size w12))).2.2.2.2.2.2.2.2.2.2.2.2.1,(I.out _ (bdrew (Below.refl w12.heap.size w12))).2.2.2.1⟩ (fun hHeld => ?_)
   refine pA 0 63 (bmE 8 1) ?_
   refine tA 1 64 (bmE 8 3) hHeld ?_ (hy:=by
    rintro w' ⟨s0,s1⟩
    have q5:=cell_of (j:=5) s0 rfl
    go_simp
    with_reducible rfl)
   refine tA 3 66 (bmE 8 11) hHeld ?_ (hy:=by
    rintro w' ⟨s0,s1⟩
    have q0:=cell_of (j:=0) s1 rfl
    have q1:=cell_of (j:=1) s1 rfl
    have q2:=cell_of (j:=2) s1 rfl
    have q3:=cell_of (j:=3) s1 rfl
    go_simp
    with_reducible rfl)
   refine join_ (σ:=(Option Addr×Nat)×Nat) 3 (bmE 8 31) (fun s=>match s with | ((A7,c7),g4)=>[(65,.slice A7 tr.length c7),(67,.slice (some ⟨g4,0,none⟩) 1 1)]) (fun s W=>match s with | ((A7,c7),g4)=>Below w12.heap.size w12 W∧w12.heap.size≤g4∧W.heap[g4]? = some (.cells #[.int .u8 x.kind,.slice A4 x.path.length c4,.slice none 0 0,.int .i64 42] 79 (0,0))∧CallK.R 79 W w12.heap.size (fun _=>True) (.slice A7 tr.length c7) tr∧(∀ k,(Value.slice A7 tr.length c7).ownBlock=some k→k≠g4)) ?_ ?_
   rotate_left
   ·intro hc0
    refine join_ (σ:=(Option Addr×Nat)) 4 (bmE 8 15) (fun s=>match s with | (A7,c7)=>[(65,.slice A7 tr.length c7)]) (fun s W=>match s with | (A7,c7)=>Below w12.heap.size w12 W∧CallK.R 79 W w12.heap.size (fun _=>True) (.slice A7 tr.length c7) tr) ?_ ?_
    ·rintro ⟨A7,c7⟩ V hF
     obtain ⟨hb,hr7⟩:=hF
     refine uA ?_
     refine eA 4 67 (bmE 8 31) (fun K hK => ?_)
     have ha:=below_alloc (Below.refl V.heap.size V) (.cells #[.int .u8 x.kind,.slice A4 x.path.length c4,.slice none 0 0,.int .i64 42] 79)
     have hbn:=below_alloc hb (.cells #[.int .u8 x.kind,.slice A4 x.path.length c4,.slice none 0 0,.int .i64 42] 79)
     refine vA ?_
     refine hK.out _ _ (⟨(I.out _ hbn).2.2.2.2.2.2.2.2.2.2.2.2.1,(I.out _ hbn).2.2.2.1⟩) (fun hHeld => ?_)
     refine nA 67 ?_
     refine jA (hc0 ((A7,c7),V.heap.size) _ (⟨hbn,hb.size,blk_new V (.cells #[.int .u8 x.kind,.slice A4 x.path.length c4,.slice none 0 0,.int .i64 42] 79),Kd.R_below hr7 ha,fun k hk e=>by have:=Kd.R_lt hr7 k hk;omega⟩))
    intro hc1
    refine join_ (σ:=Nat) 4 (bmE 8 27) (fun s=>match s with | g4=>[(67,.slice (some ⟨g4,0,none⟩) 1 1)]) (fun s W=>match s with | g4=>Below w12.heap.size w12 W∧w12.heap.size≤g4∧W.heap[g4]? = some (.cells #[.int .u8 x.kind,.slice A4 x.path.length c4,.slice none 0 0,.int .i64 42] 79 (0,0))) ?_ ?_
    ·rintro g4 V hF
     obtain ⟨hb,hl4,hz4⟩:=hF
     refine uA ?_
     refine eA 2 65 (bmE 8 31) (fun K hK => ?_)
     refine gA Tryz.func32 #[.slice At tr.length ct] ?_
     refine (copiedP At ct tr _ (I.out _ hb).2.2.2.2.2.2.1 hct (by omega) (fun y hy=>⟨by have:=(hsh y hy).1;omega,by have:=(hsh y hy).2;omega⟩)).mono ?_
     rintro e w5 ⟨A7,c7,rfl,hR,hq5⟩
     refine ⟨_,rfl,?_⟩
     have hbn:=hb.trans (hq5.mono hb.size)
     refine hK.out _ _ (⟨(I.out _ hbn).2.2.2.2.2.2.2.2.2.2.2.2.1,(I.out _ hbn).2.2.2.1⟩) (fun hHeld => ?_)
     refine nA 65 ?_
     refine jA (hc0 ((A7,c7),g4) _ (⟨hbn,hl4,(hq5.block _ (blk_lt hz4)).trans hz4,Kd.R_lower hR hb.size,fun k hk e=>by have:=((Kd.R_bound hR).1 k hk).2.1;have:=blk_lt hz4;omega⟩))
    intro hc2
    have hb:Below w12.heap.size w12 w12.drew:=bdrew (Below.refl _ _)
    generalize hVV:w12.drew=V at *
    refine two_ (i:=2) (j:=4) (Ni:=some 65) (Nj:=some 67) (bmE 8 15) (bmE 8 27) rfl rfl rfl rfl (by kernel_rfl) (by decide) (by decide) (fun K hK => ?_) (fun K hK => ?_)
    ·refine gA Tryz.func32 #[.slice At tr.length ct] ?_
     refine (copiedP At ct tr _ (I.out _ hb).2.2.2.2.2.2.1 hct (by omega) (fun y hy=>⟨by have:=(hsh y hy).1;omega,by have:=(hsh y hy).2;omega⟩)).mono ?_
     rintro e w5 ⟨A7,c7,rfl,hR,hq5⟩
     refine ⟨_,rfl,?_⟩
     have hbn:=hb.trans (hq5.mono hb.size)
     refine hK.out _ _ (⟨(I.out _ hbn).2.2.2.2.2.2.2.2.2.2.2.2.1,(I.out _ hbn).2.2.2.1⟩) (fun hHeld => ?_)
     refine nA 65 ?_
     refine jA (hc1 (A7,c7) _ (⟨hbn,Kd.R_lower hR hb.size⟩))
    ·have ha:=below_alloc (Below.refl V.heap.size V) (.cells #[.int .u8 x.kind,.slice A4 x.path.length c4,.slice none 0 0,.int .i64 42] 79)
     have hbn:=below_alloc hb (.cells #[.int .u8 x.kind,.slice A4 x.path.length c4,.slice none 0 0,.int .i64 42] 79)
     refine vA ?_
     refine hK.out _ _ (⟨(I.out _ hbn).2.2.2.2.2.2.2.2.2.2.2.2.1,(I.out _ hbn).2.2.2.1⟩) (fun hHeld => ?_)
     refine nA 67 ?_
     refine jA (hc2 V.heap.size _ (⟨hbn,hb.size,blk_new V (.cells #[.int .u8 x.kind,.slice A4 x.path.length c4,.slice none 0 0,.int .i64 42] 79)⟩))
   ·rintro ⟨⟨A7,c7⟩,g4⟩ V hF
    obtain ⟨hb,hl4,hz4,hr7,hj⟩:=hF
    refine uA ?_
    refine eA 5 68 (bmE 8 63) (fun K hK => ?_)
    have hsV:=hb.size
    refine Kd.N_append_rows_step CallK (w0:=V) 0 (by rfl) (.tmp 65) (.tmp 67) 34 79 (.agg #[.int .u8 0,.slice none 0 0,.slice none 0 0,.int .i64 0]) 64 rfl Tryz.underlying34 info_call rfl (by decide) (by omega) (.slice A7 tr.length c7) tr [(⟨x.kind,x.path,[],42⟩:Call)] (some ⟨g4,0,none⟩) 1 1 (fun k=>(w.heap.size+3<k∧k<W9.heap.size∧k≠g6)∨w12.heap.size≤k) (fun k=>k=g4∨(w.heap.size+3<k∧k<W9.heap.size∧k≠g6)) rfl rfl ?aO ?aR ?aK ?aF ?aB ?aS ?aL ?_
    case aO=>exact Kd.N_mono (Kd.R_N (Kd.R_lower (Kd.R_bound hr7) (Nat.zero_le _))) (fun k hk=>.inr hk.2.1)
    case aR =>
     have hCP:=(I.out _ hb).2.2.1
     exact fun W' hW'=>callC_box ((hW' g4 (.inl rfl) (blk_lt hz4)).trans hz4) (CallK.K_of_M (call_mkM W' 0 (fun _=>True) (⟨x.kind,x.path,[],42⟩:Call) (Kd.R_mono (Kd.R_lower (Kd.R_step hCP fun k hk hl=>hW' k (.inr ⟨by have:=hk.1;omega,hk.2.1,hk.2.2⟩) hl) (Nat.zero_le _)) (fun _ _=>trivial)) (Kd.R_nil _ _ _ _ _)))
    case aK =>
     rintro k (rfl | hk)
     ·exact ⟨.inr hl4,fun e=>hj _ e.symm rfl⟩
     ·exact ⟨.inl hk,fun e=>by have:=((Kd.R_bound hr7).1 k e.symm).2.1;omega⟩
    case aF=>exact fun k hk=>.inr (by omega)
    case aB=>exact Below.refl _ _
    case aS=>exact Nat.zero_le _
    case aL=>omega
    intro v6 w6 hN hB6 hgr6 hat6
    rw [HTR2.out] at hN
    obtain ⟨A6,c6,rfl⟩:=Kd.N_slice hN
    have hN6:=(Kd.N_reads' hN).2.1
    have HVB:Hid (∀ k,k<w12.heap.size→V.heap[k]? = w12.heap[k]?):=Lib.hid fun k hk=>hb.block k hk
    have HN:=Lib.hid hN
    have hs6:=hgr6.size
    have HK6:Hid (∀ k,k<w12.heap.size→w6.heap[k]? = V.heap[k]?):=Lib.hid fun k hk=>hgr6.block k (by omega) (fun e=>by have:=((Kd.R_bound hr7).1 k e.symm).2.1;omega)
    have HB6:Hid (Below w.heap.size V w6):=Lib.hid ((Only.grown_of hgr6).below (by omega) (fun k hk e=>by have:=((Kd.R_bound hr7).1 k e).2.1;omega))
    have hO6:=(HK6.out _ (by omega)).trans ((I.out _ hb).2.1)
    clear hN hB6 hgr6 hat6
    refine hK.out _ _ ⟨(HK6.out _ (by omega)).trans ((I.out _ hb).2.2.2.2.2.2.2.2.2.2.2.2.1),(HK6.out _ (by omega)).trans ((I.out _ hb).2.2.2.1)⟩ (fun hHeld => ?_)
    refine nA 68 ?_
    refine pA 6 69 (bmE 8 127) ?_
    refine last_ (i:=7) (N:=none) (bmE 8 255) rfl rfl (by kernel_rfl) (by decide) (fun K hK => ?_)
    have z5:=cell_of (j:=5) hO6 rfl
    have u5:=unfr hO6 5
    refine sA ?_
    refine hK.out _ _ ?_
    refine done_ (by kernel_rfl) ?_
    have hbV:=(I.out _ hb).2.2.2.2.2.2.2.2.2.2.2.2.2
    have hMV:∀ k,k<w12.heap.size→k≠W9.heap.size→(w6.setCell ⟨W9.heap.size,5,none⟩ (.slice A6 fr.length c6)).heap[k]? = V.heap[k]? := fun k hk hn=>(Below.heap_setCell _ _ _ _ (by simpa using hn)).trans (HK6.out k hk)
    have hbE:Below w.heap.size w (w6.setCell ⟨W9.heap.size,5,none⟩ (.slice A6 fr.length c6)):=(hbV.trans HB6.out).trans ((Only.setCell w6 ⟨W9.heap.size,5,none⟩ _).below (B:=w.heap.size) (by have:=HB6.out.size;omega) (fun k hk e=>by have e':k=W9.heap.size:=e;omega))
    have hOE:=set_block hO6 5 (.slice A6 fr.length c6)
    have hRE:=(hMV (w.heap.size+2) (by omega) (by omega)).trans (I.out _ hb).2.2.2.2.2.2.2.2.2.2.1
    have hAE:=(hMV (w.heap.size+3) (by omega) (by omega)).trans (I.out _ hb).2.2.2.2.2.2.2.2.2.1
    have hBE:=(hMV (W10.heap.size) (by omega) (by omega)).trans (I.out _ hb).1
    have hCE:=(hMV g6 (by omega) (by omega)).trans (I.out _ hb).2.2.2.1
    have HKE:Hid (∀ k,k≠W9.heap.size→(w6.setCell ⟨W9.heap.size,5,none⟩ (.slice A6 fr.length c6)).heap[k]? = w6.heap[k]?):=Lib.hid fun k hn=>Below.heap_setCell _ _ _ _ (by simpa using hn)
    have hsE:(w6.setCell ⟨W9.heap.size,5,none⟩ (.slice A6 fr.length c6)).heap.size=w6.heap.size:=by simp [World.setCell]
    have hsE2:w6.heap.size≤(w6.setCell ⟨W9.heap.size,5,none⟩ (.slice A6 fr.length c6)).heap.size:=by omega
    clear hsE hO6 hMV hbV I
    generalize (w6.setCell ⟨W9.heap.size,5,none⟩ (.slice A6 fr.length c6))=W14 at *
    have I:=Lib.hid (Hd.base hbE (by first | exact Nat.le_refl _ | exact Below.size hbE))
    replace I:=Lib.hid (Hd.and I.out (Hd.box (hOE)))
    replace I:=Lib.hid (Hd.and I.out (Hd.box (hBE)))
    replace I:=Lib.hid (Hd.and I.out (Hd.box (hCE)))
    replace I:=Lib.hid (Hd.and I.out (Hd.box (hRE)))
    replace I:=Lib.hid (Hd.and I.out (Hd.box (hAE)))
    clear hbE hOE hRE hAE hBE hCE
    go_wp2_with fail
    replace I:=Lib.hid (Hd.mv I.out (bdrew (Below.refl W14.heap.size W14)))
    have HKD:Hid (∀ k,k≠W9.heap.size→W14.drew.heap[k]? = w6.heap[k]?):=Lib.hid HKE.out
    have hsD:w6.heap.size≤W14.drew.heap.size:=hsE2
    have hsW:w12.heap.size≤w6.heap.size:=by omega
    have HVW:=Lib.hid (fun k (h:k<w12.heap.size)=>(HK6.out k h).trans (HVB.out k h))
    have HZ:W14.drew.heap[w.heap.size+1+1]? = some (.cells #[.string ⟨#[]⟩,.int .u8 0,.string ⟨#[]⟩,.slice none 0 0,.slice none 0 0,.slice none 0 0] 36 (0,0)):=I.out.now.2.1
    have HA:W14.drew.heap[w.heap.size+1+1+1]? = some (.cells #[.int .u8 0,.int .i64 0,.string ⟨#[]⟩] 46 (0,0)):=I.out.now.1
    have HST:=Lib.hid (store9 HZ HA (by omega) (.string t.name) (.int .u8 t.kind) (.string t.data) (.slice A t.files.length c) (.slice Al l.length cl) (.slice A6 fr.length c6) (.int .u8 0) (.int .i64 0) (.string ⟨#[]⟩))
    have HBV:=Lib.hid (I.out.now.2.2.2.2.2.trans (HST.out.2.2.below (B:=w.heap.size) (by have:=Below.size I.out.now.2.2.2.2.2;omega) (fun k hk e=>by omega)))
    obtain ⟨z0,z1,z2,z3,z4,z5⟩:=c6A HZ
    obtain ⟨u0,u1,u2,u3,u4,u5⟩:=u6A HZ
    obtain ⟨y0,y1,y2⟩:=c3A HA
    obtain ⟨n0,n1,n2⟩:=u3A HA
    refine start_ (n:=7) (S:=fun w'=>w'.heap[W9.heap.size]? = some (.cells #[.string t.name,.int .u8 t.kind,.string t.data,.slice A t.files.length c,.slice Al l.length cl,.slice A6 fr.length c6] 36 (0,0))∧w'.heap[W10.heap.size]? = some (.cells #[.int .u8 0,.int .i64 0,.string ⟨#[]⟩] 46 (0,0))∧w'.heap[g6]? = some (.cells #[.int .u8 x.kind,.slice A4 x.path.length c4,.slice none 0 0,.int .i64 42] 79 (0,0))) (ds:=[]) (bmE 7 0) (by kernel_rfl) rfl rfl ⟨I.out.now.2.2.2.2.1,I.out.now.2.2.2.1,I.out.now.2.2.1⟩ (fun hHeld => ?_)
    generalize W14.drew=Wd at *
    refine pA 2 72 (bmE 7 4) ?_
    refine tA 0 70 (bmE 7 5) hHeld ?_ (hy:=by
     rintro w' ⟨s0,s1,s2⟩
     have q0:=cell_of (j:=0) s0 rfl
     have q1:=cell_of (j:=1) s0 rfl
     have q2:=cell_of (j:=2) s0 rfl
     have q3:=cell_of (j:=3) s0 rfl
     have q4:=cell_of (j:=4) s0 rfl
     have q5:=cell_of (j:=5) s0 rfl
     go_simp
     with_reducible rfl)
    refine tA 1 71 (bmE 7 7) hHeld ?_ (hy:=by
     rintro w' ⟨s0,s1,s2⟩
     have q0:=cell_of (j:=0) s1 rfl
     have q1:=cell_of (j:=1) s1 rfl
     have q2:=cell_of (j:=2) s1 rfl
     go_simp
     with_reducible rfl)
    refine tA 3 73 (bmE 7 15) hHeld ?_ (hy:=by
     rintro w' ⟨s0,s1,s2⟩
     have q3:=cell_of (j:=3) s2 rfl
     go_simp
     with_reducible rfl)
    refine one_ (i:=4) (N:=none) (bmE 7 31) rfl rfl (by kernel_rfl) (by decide) (fun K hK => ?_)
    refine sA ?_
    refine hK.out _ _ ⟨(store6_other _ (g:=w.heap.size+1+1) (by omega) _ _ _ _ _ _).trans hHeld.1,(store6_other _ (g:=w.heap.size+1+1) (by omega) _ _ _ _ _ _).trans hHeld.2.1,(store6_other _ (g:=w.heap.size+1+1) (by omega) _ _ _ _ _ _).trans hHeld.2.2⟩ (fun hHeld => ?_)
    have hA15:=(store6_other Wd (g:=w.heap.size+1+1) (k:=w.heap.size+1+1+1) (by omega) (.string t.name) (.int .u8 t.kind) (.string t.data) (.slice A t.files.length c) (.slice Al l.length cl) (.slice A6 fr.length c6)).trans HA
    obtain ⟨yy0,yy1,yy2⟩:=c3A hA15
    obtain ⟨nn0,nn1,nn2⟩:=u3A hA15
    clear hA15 HZ HA z0 z1 z2 z3 z4 z5 u0 u1 u2 u3 u4 u5 y0 y1 y2 n0 n1 n2
    generalize ((((((Wd.setCell ⟨w.heap.size+1+1,0,none⟩ (.string t.name)).setCell ⟨w.heap.size+1+1,1,none⟩ (.int .u8 t.kind)).setCell ⟨w.heap.size+1+1,2,none⟩ (.string t.data)).setCell ⟨w.heap.size+1+1,3,none⟩ (.slice A t.files.length c)).setCell ⟨w.heap.size+1+1,4,none⟩ (.slice Al l.length cl)).setCell ⟨w.heap.size+1+1,5,none⟩ (.slice A6 fr.length c6))=W15 at *
    refine one_ (i:=5) (N:=none) (bmE 7 63) rfl rfl (by kernel_rfl) (by decide) (fun K hK => ?_)
    refine sA ?_
    refine hK.out _ _ ⟨(store3_other _ (g:=w.heap.size+1+1+1) (by omega) _ _ _).trans hHeld.1,(store3_other _ (g:=w.heap.size+1+1+1) (by omega) _ _ _).trans hHeld.2.1,(store3_other _ (g:=w.heap.size+1+1+1) (by omega) _ _ _).trans hHeld.2.2⟩ (fun hHeld => ?_)
    refine pA 6 6 (bmE 7 127) ?_
    refine done_ (by kernel_rfl) ?_
    go_wp2_with fail
    refine bodyPost_ret (results_cct rfl _ _ (w.heap.size+1+1) (w.heap.size+1+1+1) 36 46 #[.string t.name,.int .u8 t.kind,.string t.data,.slice A t.files.length c,.slice Al l.length cl,.slice A6 fr.length c6] #[.int .u8 0,.int .i64 0,.string ⟨#[]⟩] (0,0) (0,0) _ _ rfl HST.out.1 Tryz.underlying36 rfl (by kernel_rfl) rfl HST.out.2.1 Tryz.underlying46 rfl (by kernel_rfl)) rfl ?_
    refine ⟨A,c,A6,c6,rfl,hc,hN6,fun Wx hx1 hx2 hx3=>⟨HUF.out Wx hx1 (fun k h1 h2=>absurd h2 (by omega)),(Kd.N_reads' (Kd.N_step HN.out fun k hk hl => ?_)).2.2⟩,HBV.out⟩
    have hk2:(w.heap.size+3<k∧k<W9.heap.size∧k≠g6)∨w12.heap.size≤k:=hk
    exact (hx3 k (by omega) (Nat.lt_of_lt_of_le (show k<Wd.heap.size by omega) HST.out.2.2.size)).trans ((HST.out.2.2.block k (by omega) (by omega)).trans (HKD.out k (by omega)))
  obtain ⟨⟨u,ua,uw⟩,hrd⟩:∃ r,rdoD t x=r:=⟨_,rfl⟩
  have HRD:=Lib.hid hrd
  have HE:=(doV_fit (f:=⟨t,tr,l⟩) HRT.out HOX.out HFIT.out (of_decide_eq_false HB3.out)).symm.trans HR.out
  rw [if_neg HK5.out] at HE
  simp only [hrd] at HE
  injection HE with he1 he2
  injection he1 with he3 he4 he5
  injection he2 with he6 he7
  subst he3 he5 he6 he7
  have HTR2:=Lib.hid he4
  clear he4 hrd
  have HPN:=Lib.hid (show ∀ b,∀ n∈(walkR t x.path b).1,n.size≤100000000 from fun b n hn=>by have h1:=walk_sum t x.path b;have h2:=sumP_in hn;omega)
  have HQN:=Lib.hid (show ∀ n∈(walkR t x.dest false).1,n.size≤100000000 from fun n hn=>by have h1:=walk_sum t x.dest false;have h2:=sumP_in hn;omega)
  obtain ⟨lf0,lf1,lf2,lf3,lf4,lf5⟩:=c6A I.out.now.2.2.2.2.2.2.2.2.2.2.2.2.1
  obtain ⟨lx0,lx1,lx2,lx3⟩:=c4A I.out.now.2.2.2.2.2.2.2.2.2.2.2.1
  go_wp2_with fail
  clear lf0 lf1 lf2 lf3 lf4 lf5
  clear lx0 lx1 lx2 lx3
  refine ((show Calls Tryz.prog 31 #[.agg (fc t A c),.agg #[.int .u8 x.kind,.slice A1 x.path.length c1,.slice B1 x.dest.length d1,.string x.data]] w12 _ from rdoD_calls t A c x HOX.out A1 B1 c1 d1 w12 I.out.now.2.2.2.2.2.2.2.2.1 hc hbt HRT.out I.out.now.2.2.2.2.2.1 hcp1 (by omega) HPN.out I.out.now.2.2.2.2.1 hdq1 (by omega) HQN.out hxd)).mono ?_
  rintro e w21 ⟨A8,c8,rfl,hc8,hU8,hq21⟩
  replace I:=Lib.hid (Hd.mv I.out hq21)
  rw [HRD.out] at hc8 hU8 ⊢
  simp only at hc8 hU8 ⊢
  have HUF:=Lib.hid hU8
  have hsk:=hq21.size
  have hO0:=I.out.now.2.1
  have hB0:=I.out.now.1
  have hC0:=I.out.now.2.2.2.1
  clear hU8
  obtain ⟨zo0,zo1,zo2,zo3⟩:=c4A hO0
  obtain ⟨uo0,uo1,uo2,uo3⟩:=u4A hO0
  obtain ⟨zb0,zb1,zb2⟩:=c3A hB0
  obtain ⟨ub0,ub1,ub2⟩:=u3A hB0
  have zc3:=cell_of (j:=3) hC0 rfl
  have uc3:=unfr hC0 3
  have h9:W9.heap.size<w12.heap.size∧W10.heap.size<w12.heap.size∧W9.heap.size<W10.heap.size:=⟨by omega,by omega,by omega⟩
  have H8:=Lib.hid (store8 hO0 hB0 hC0 (by omega) (by omega) (by omega) (.string u.name) (.int .u8 u.kind) (.string u.data) (.slice A8 u.files.length c8) (.int .u8 ua.kind) (.int .i64 ua.size) (.string ua.data) (.int .i64 uw))
  have hF8:=(H8.out.2.2.2.block w.heap.size (by omega) (by omega)).trans I.out.now.2.2.2.2.2.2.2.2.2.2.2.2.1
  have hR8:=(H8.out.2.2.2.block (w.heap.size+2) (by omega) (by omega)).trans I.out.now.2.2.2.2.2.2.2.2.2.2.1
  have hA8:=(H8.out.2.2.2.block (w.heap.size+3) (by omega) (by omega)).trans I.out.now.2.2.2.2.2.2.2.2.2.1
  have hb8:=I.out.now.2.2.2.2.2.2.2.2.2.2.2.2.2.trans (H8.out.2.2.2.below (B:=w.heap.size) (by omega) (fun k hk e=>by omega))
  have hCP8:=Kd.R_step I.out.now.2.2.1 (fun k hk hl=>H8.out.2.2.2.block k hl (fun e=>by have h1:=hk.2.1;have h2:=hk.2.2;omega))
  have HMW:Hid (∀ k,k<w21.heap.size→k≠W9.heap.size→k≠W10.heap.size→k≠g6→((((((((w21.setCell ⟨W9.heap.size,0,none⟩ (.string u.name)).setCell ⟨W9.heap.size,1,none⟩ (.int .u8 u.kind)).setCell ⟨W9.heap.size,2,none⟩ (.string u.data)).setCell ⟨W9.heap.size,3,none⟩ (.slice A8 u.files.length c8)).setCell ⟨W10.heap.size,0,none⟩ (.int .u8 ua.kind)).setCell ⟨W10.heap.size,1,none⟩ (.int .i64 ua.size)).setCell ⟨W10.heap.size,2,none⟩ (.string ua.data)).setCell ⟨g6,3,none⟩ (.int .i64 uw)).heap[k]? = w21.heap[k]?):=Lib.hid (fun k hl a1 a2 a3=>H8.out.2.2.2.block k hl (fun e=>by omega))
  have hs13:=H8.out.2.2.2.size
  have hO8:=H8.out.1
  have hB8:=H8.out.2.1
  have hC8:=H8.out.2.2.1
  clear H8
  go_wp2_with fail
  clear zo0 zo1 zo2 zo3 uo0 uo1 uo2 uo3 zb0 zb1 zb2 ub0 ub1 ub2 zc3 uc3 hO0 hB0 hC0 I
  generalize ((((((((w21.setCell ⟨W9.heap.size,0,none⟩ (.string u.name)).setCell ⟨W9.heap.size,1,none⟩ (.int .u8 u.kind)).setCell ⟨W9.heap.size,2,none⟩ (.string u.data)).setCell ⟨W9.heap.size,3,none⟩ (.slice A8 u.files.length c8)).setCell ⟨W10.heap.size,0,none⟩ (.int .u8 ua.kind)).setCell ⟨W10.heap.size,1,none⟩ (.int .i64 ua.size)).setCell ⟨W10.heap.size,2,none⟩ (.string ua.data)).setCell ⟨g6,3,none⟩ (.int .i64 uw))=W13 at *
  have I:=Lib.hid (Hd.base hb8 (by first | exact Nat.le_refl _ | exact Below.size hb8))
  replace I:=Lib.hid (Hd.and I.out (Hd.box (hO8)))
  replace I:=Lib.hid (Hd.and I.out (Hd.box (hB8)))
  replace I:=Lib.hid (Hd.and I.out (Hd.box (hC8)))
  replace I:=Lib.hid (Hd.and I.out (Hd.box (hF8)))
  replace I:=Lib.hid (Hd.and I.out (Hd.box (hR8)))
  replace I:=Lib.hid (Hd.and I.out (Hd.box (hA8)))
  replace I:=Lib.hid (Hd.and I.out (Hd.reads ((HT0.out _ hb8).2)))
  replace I:=Lib.hid (Hd.and I.out (Hd.rows hCP8))
  clear hO8 hB8 hC8 hF8 hR8 hA8 hCP8 hb8
  have hWW:W9.heap.size<W13.heap.size∧W10.heap.size<W13.heap.size:=⟨by omega,by omega⟩
  refine start_ (n:=8) (S:=fun w'=>w'.heap[w.heap.size]? = some (.cells #[.string t.name,.int .u8 t.kind,.string t.data,.slice A t.files.length c,.slice Al l.length cl,.slice At tr.length ct] 36 (0,0))∧w'.heap[g6]? = some (.cells #[.int .u8 x.kind,.slice A4 x.path.length c4,.slice none 0 0,.int .i64 uw] 79 (0,0))) (ds:=[7]) (bmE 8 0) (by kernel_rfl) rfl rfl ⟨(I.out _ (bdrew (Below.refl W13.heap.size W13))).2.2.2.2.1,(I.out _ (bdrew (Below.refl W13.heap.size W13))).2.2.2.2.2.1⟩ (fun hHeld => ?_)
  refine pA 0 63 (bmE 8 1) ?_
  refine tA 1 64 (bmE 8 3) hHeld ?_ (hy:=by
   rintro w' ⟨s0,s1⟩
   have q5:=cell_of (j:=5) s0 rfl
   go_simp
   with_reducible rfl)
  refine tA 3 66 (bmE 8 11) hHeld ?_ (hy:=by
   rintro w' ⟨s0,s1⟩
   have q0:=cell_of (j:=0) s1 rfl
   have q1:=cell_of (j:=1) s1 rfl
   have q2:=cell_of (j:=2) s1 rfl
   have q3:=cell_of (j:=3) s1 rfl
   go_simp
   with_reducible rfl)
  refine join_ (σ:=(Option Addr×Nat)×Nat) 3 (bmE 8 31) (fun s=>match s with | ((A7,c7),g4)=>[(65,.slice A7 tr.length c7),(67,.slice (some ⟨g4,0,none⟩) 1 1)]) (fun s W=>match s with | ((A7,c7),g4)=>Below W13.heap.size W13 W∧W13.heap.size≤g4∧W.heap[g4]? = some (.cells #[.int .u8 x.kind,.slice A4 x.path.length c4,.slice none 0 0,.int .i64 uw] 79 (0,0))∧CallK.R 79 W W13.heap.size (fun _=>True) (.slice A7 tr.length c7) tr∧(∀ k,(Value.slice A7 tr.length c7).ownBlock=some k→k≠g4)) ?_ ?_
  rotate_left
  ·intro hc0
   refine join_ (σ:=(Option Addr×Nat)) 4 (bmE 8 15) (fun s=>match s with | (A7,c7)=>[(65,.slice A7 tr.length c7)]) (fun s W=>match s with | (A7,c7)=>Below W13.heap.size W13 W∧CallK.R 79 W W13.heap.size (fun _=>True) (.slice A7 tr.length c7) tr) ?_ ?_
   ·rintro ⟨A7,c7⟩ V hF
    obtain ⟨hb,hr7⟩:=hF
    refine uA ?_
    refine eA 4 67 (bmE 8 31) (fun K hK => ?_)
    have ha:=below_alloc (Below.refl V.heap.size V) (.cells #[.int .u8 x.kind,.slice A4 x.path.length c4,.slice none 0 0,.int .i64 uw] 79)
    have hbn:=below_alloc hb (.cells #[.int .u8 x.kind,.slice A4 x.path.length c4,.slice none 0 0,.int .i64 uw] 79)
    refine vA ?_
    refine hK.out _ _ (⟨(I.out _ hbn).2.2.2.2.1,(I.out _ hbn).2.2.2.2.2.1⟩) (fun hHeld => ?_)
    refine nA 67 ?_
    refine jA (hc0 ((A7,c7),V.heap.size) _ (⟨hbn,hb.size,blk_new V (.cells #[.int .u8 x.kind,.slice A4 x.path.length c4,.slice none 0 0,.int .i64 uw] 79),Kd.R_below hr7 ha,fun k hk e=>by have:=Kd.R_lt hr7 k hk;omega⟩))
   intro hc1
   refine join_ (σ:=Nat) 4 (bmE 8 27) (fun s=>match s with | g4=>[(67,.slice (some ⟨g4,0,none⟩) 1 1)]) (fun s W=>match s with | g4=>Below W13.heap.size W13 W∧W13.heap.size≤g4∧W.heap[g4]? = some (.cells #[.int .u8 x.kind,.slice A4 x.path.length c4,.slice none 0 0,.int .i64 uw] 79 (0,0))) ?_ ?_
   ·rintro g4 V hF
    obtain ⟨hb,hl4,hz4⟩:=hF
    refine uA ?_
    refine eA 2 65 (bmE 8 31) (fun K hK => ?_)
    refine gA Tryz.func32 #[.slice At tr.length ct] ?_
    refine (copiedP At ct tr _ (I.out _ hb).2.1 hct (by omega) (fun y hy=>⟨by have:=(hsh y hy).1;omega,by have:=(hsh y hy).2;omega⟩)).mono ?_
    rintro e w5 ⟨A7,c7,rfl,hR,hq5⟩
    refine ⟨_,rfl,?_⟩
    have hbn:=hb.trans (hq5.mono hb.size)
    refine hK.out _ _ (⟨(I.out _ hbn).2.2.2.2.1,(I.out _ hbn).2.2.2.2.2.1⟩) (fun hHeld => ?_)
    refine nA 65 ?_
    refine jA (hc0 ((A7,c7),g4) _ (⟨hbn,hl4,(hq5.block _ (blk_lt hz4)).trans hz4,Kd.R_lower hR hb.size,fun k hk e=>by have:=((Kd.R_bound hR).1 k hk).2.1;have:=blk_lt hz4;omega⟩))
   intro hc2
   have hb:Below W13.heap.size W13 W13.drew:=bdrew (Below.refl _ _)
   generalize hVV:W13.drew=V at *
   refine two_ (i:=2) (j:=4) (Ni:=some 65) (Nj:=some 67) (bmE 8 15) (bmE 8 27) rfl rfl rfl rfl (by kernel_rfl) (by decide) (by decide) (fun K hK => ?_) (fun K hK => ?_)
   ·refine gA Tryz.func32 #[.slice At tr.length ct] ?_
    refine (copiedP At ct tr _ (I.out _ hb).2.1 hct (by omega) (fun y hy=>⟨by have:=(hsh y hy).1;omega,by have:=(hsh y hy).2;omega⟩)).mono ?_
    rintro e w5 ⟨A7,c7,rfl,hR,hq5⟩
    refine ⟨_,rfl,?_⟩
    have hbn:=hb.trans (hq5.mono hb.size)
    refine hK.out _ _ (⟨(I.out _ hbn).2.2.2.2.1,(I.out _ hbn).2.2.2.2.2.1⟩) (fun hHeld => ?_)
    refine nA 65 ?_
    refine jA (hc1 (A7,c7) _ (⟨hbn,Kd.R_lower hR hb.size⟩))
   ·have ha:=below_alloc (Below.refl V.heap.size V) (.cells #[.int .u8 x.kind,.slice A4 x.path.length c4,.slice none 0 0,.int .i64 uw] 79)
    have hbn:=below_alloc hb (.cells #[.int .u8 x.kind,.slice A4 x.path.length c4,.slice none 0 0,.int .i64 uw] 79)
    refine vA ?_
    refine hK.out _ _ (⟨(I.out _ hbn).2.2.2.2.1,(I.out _ hbn).2.2.2.2.2.1⟩) (fun hHeld => ?_)
    refine nA 67 ?_
    refine jA (hc2 V.heap.size _ (⟨hbn,hb.size,blk_new V (.cells #[.int .u8 x.kind,.slice A4 x.path.length c4,.slice none 0 0,.int .i64 uw] 79)⟩))
  ·rintro ⟨⟨A7,c7⟩,g4⟩ V hF
   obtain ⟨hb,hl4,hz4,hr7,hj⟩:=hF
   refine uA ?_
   refine eA 5 68 (bmE 8 63) (fun K hK => ?_)
   have hsV:=hb.size
   refine Kd.N_append_rows_step CallK (w0:=V) 0 (by rfl) (.tmp 65) (.tmp 67) 34 79 (.agg #[.int .u8 0,.slice none 0 0,.slice none 0 0,.int .i64 0]) 64 rfl Tryz.underlying34 info_call rfl (by decide) (by omega) (.slice A7 tr.length c7) tr [(⟨x.kind,x.path,[],uw⟩:Call)] (some ⟨g4,0,none⟩) 1 1 (fun k=>(w.heap.size+3<k∧k<W9.heap.size∧k≠g6)∨W13.heap.size≤k) (fun k=>k=g4∨(w.heap.size+3<k∧k<W9.heap.size∧k≠g6)) rfl rfl ?aO ?aR ?aK ?aF ?aB ?aS ?aL ?_
   case aO=>exact Kd.N_mono (Kd.R_N (Kd.R_lower (Kd.R_bound hr7) (Nat.zero_le _))) (fun k hk=>.inr hk.2.1)
   case aR =>
    have hCP:=(I.out _ hb).1
    exact fun W' hW'=>callC_box ((hW' g4 (.inl rfl) (blk_lt hz4)).trans hz4) (CallK.K_of_M (call_mkM W' 0 (fun _=>True) (⟨x.kind,x.path,[],uw⟩:Call) (Kd.R_mono (Kd.R_lower (Kd.R_step hCP fun k hk hl=>hW' k (.inr ⟨by have:=hk.1;omega,hk.2.1,hk.2.2⟩) hl) (Nat.zero_le _)) (fun _ _=>trivial)) (Kd.R_nil _ _ _ _ _)))
   case aK =>
    rintro k (rfl | hk)
    ·exact ⟨.inr hl4,fun e=>hj _ e.symm rfl⟩
    ·exact ⟨.inl hk,fun e=>by have:=((Kd.R_bound hr7).1 k e.symm).2.1;omega⟩
   case aF=>exact fun k hk=>.inr (by omega)
   case aB=>exact Below.refl _ _
   case aS=>exact Nat.zero_le _
   case aL=>omega
   intro v6 w6 hN hB6 hgr6 hat6
   rw [HTR2.out] at hN
   obtain ⟨A6,c6,rfl⟩:=Kd.N_slice hN
   have hN6:=(Kd.N_reads' hN).2.1
   have HVB:Hid (∀ k,k<W13.heap.size→V.heap[k]? = W13.heap[k]?):=Lib.hid fun k hk=>hb.block k hk
   have HN:=Lib.hid hN
   have hs6:=hgr6.size
   have HK6:Hid (∀ k,k<W13.heap.size→w6.heap[k]? = V.heap[k]?):=Lib.hid fun k hk=>hgr6.block k (by omega) (fun e=>by have:=((Kd.R_bound hr7).1 k e.symm).2.1;omega)
   have HB6:Hid (Below w.heap.size V w6):=Lib.hid ((Only.grown_of hgr6).below (by omega) (fun k hk e=>by have:=((Kd.R_bound hr7).1 k e).2.1;omega))
   have hO6:=(HK6.out _ (by omega)).trans ((I.out _ hb).2.2.2.2.2.2.2.1)
   clear hN hB6 hgr6 hat6
   refine hK.out _ _ ⟨(HK6.out _ (by omega)).trans ((I.out _ hb).2.2.2.2.1),(HK6.out _ (by omega)).trans ((I.out _ hb).2.2.2.2.2.1)⟩ (fun hHeld => ?_)
   refine nA 68 ?_
   refine pA 6 69 (bmE 8 127) ?_
   refine last_ (i:=7) (N:=none) (bmE 8 255) rfl rfl (by kernel_rfl) (by decide) (fun K hK => ?_)
   have z5:=cell_of (j:=5) hO6 rfl
   have u5:=unfr hO6 5
   refine sA ?_
   refine hK.out _ _ ?_
   refine done_ (by kernel_rfl) ?_
   have hbV:=(I.out _ hb).2.2.2.2.2.2.2.2
   have hMV:∀ k,k<W13.heap.size→k≠W9.heap.size→(w6.setCell ⟨W9.heap.size,5,none⟩ (.slice A6 fr.length c6)).heap[k]? = V.heap[k]? := fun k hk hn=>(Below.heap_setCell _ _ _ _ (by simpa using hn)).trans (HK6.out k hk)
   have hbE:Below w.heap.size w (w6.setCell ⟨W9.heap.size,5,none⟩ (.slice A6 fr.length c6)):=(hbV.trans HB6.out).trans ((Only.setCell w6 ⟨W9.heap.size,5,none⟩ _).below (B:=w.heap.size) (by have:=HB6.out.size;omega) (fun k hk e=>by have e':k=W9.heap.size:=e;omega))
   have hOE:=set_block hO6 5 (.slice A6 fr.length c6)
   have hRE:=(hMV (w.heap.size+2) (by omega) (by omega)).trans (I.out _ hb).2.2.2.1
   have hAE:=(hMV (w.heap.size+3) (by omega) (by omega)).trans (I.out _ hb).2.2.1
   have hBE:=(hMV (W10.heap.size) (by omega) (by omega)).trans (I.out _ hb).2.2.2.2.2.2.1
   have hCE:=(hMV g6 (by omega) (by omega)).trans (I.out _ hb).2.2.2.2.2.1
   have HKE:Hid (∀ k,k≠W9.heap.size→(w6.setCell ⟨W9.heap.size,5,none⟩ (.slice A6 fr.length c6)).heap[k]? = w6.heap[k]?):=Lib.hid fun k hn=>Below.heap_setCell _ _ _ _ (by simpa using hn)
   have hsE:(w6.setCell ⟨W9.heap.size,5,none⟩ (.slice A6 fr.length c6)).heap.size=w6.heap.size:=by simp [World.setCell]
   have hsE2:w6.heap.size≤(w6.setCell ⟨W9.heap.size,5,none⟩ (.slice A6 fr.length c6)).heap.size:=by omega
   clear hsE hO6 hMV hbV I
   generalize (w6.setCell ⟨W9.heap.size,5,none⟩ (.slice A6 fr.length c6))=W14 at *
   have I:=Lib.hid (Hd.base hbE (by first | exact Nat.le_refl _ | exact Below.size hbE))
   replace I:=Lib.hid (Hd.and I.out (Hd.box (hOE)))
   replace I:=Lib.hid (Hd.and I.out (Hd.box (hBE)))
   replace I:=Lib.hid (Hd.and I.out (Hd.box (hCE)))
   replace I:=Lib.hid (Hd.and I.out (Hd.box (hRE)))
   replace I:=Lib.hid (Hd.and I.out (Hd.box (hAE)))
   clear hbE hOE hRE hAE hBE hCE
   go_wp2_with fail
   replace I:=Lib.hid (Hd.mv I.out (bdrew (Below.refl W14.heap.size W14)))
   have HKD:Hid (∀ k,k≠W9.heap.size→W14.drew.heap[k]? = w6.heap[k]?):=Lib.hid HKE.out
   have hsD:w6.heap.size≤W14.drew.heap.size:=hsE2
   have hsW:W13.heap.size≤w6.heap.size:=by omega
   have HVW:=Lib.hid (fun k (h:k<W13.heap.size)=>(HK6.out k h).trans (HVB.out k h))
   have HZ:W14.drew.heap[w.heap.size+1+1]? = some (.cells #[.string ⟨#[]⟩,.int .u8 0,.string ⟨#[]⟩,.slice none 0 0,.slice none 0 0,.slice none 0 0] 36 (0,0)):=I.out.now.2.1
   have HA:W14.drew.heap[w.heap.size+1+1+1]? = some (.cells #[.int .u8 0,.int .i64 0,.string ⟨#[]⟩] 46 (0,0)):=I.out.now.1
   have HST:=Lib.hid (store9 HZ HA (by omega) (.string u.name) (.int .u8 u.kind) (.string u.data) (.slice A8 u.files.length c8) (.slice Al l.length cl) (.slice A6 fr.length c6) (.int .u8 ua.kind) (.int .i64 ua.size) (.string ua.data))
   have HBV:=Lib.hid (I.out.now.2.2.2.2.2.trans (HST.out.2.2.below (B:=w.heap.size) (by have:=Below.size I.out.now.2.2.2.2.2;omega) (fun k hk e=>by omega)))
   obtain ⟨z0,z1,z2,z3,z4,z5⟩:=c6A HZ
   obtain ⟨u0,u1,u2,u3,u4,u5⟩:=u6A HZ
   obtain ⟨y0,y1,y2⟩:=c3A HA
   obtain ⟨n0,n1,n2⟩:=u3A HA
   refine start_ (n:=7) (S:=fun w'=>w'.heap[W9.heap.size]? = some (.cells #[.string u.name,.int .u8 u.kind,.string u.data,.slice A8 u.files.length c8,.slice Al l.length cl,.slice A6 fr.length c6] 36 (0,0))∧w'.heap[W10.heap.size]? = some (.cells #[.int .u8 ua.kind,.int .i64 ua.size,.string ua.data] 46 (0,0))∧w'.heap[g6]? = some (.cells #[.int .u8 x.kind,.slice A4 x.path.length c4,.slice none 0 0,.int .i64 uw] 79 (0,0))) (ds:=[]) (bmE 7 0) (by kernel_rfl) rfl rfl ⟨I.out.now.2.2.2.2.1,I.out.now.2.2.2.1,I.out.now.2.2.1⟩ (fun hHeld => ?_)
   generalize W14.drew=Wd at *
   refine pA 2 72 (bmE 7 4) ?_
   refine tA 0 70 (bmE 7 5) hHeld ?_ (hy:=by
    rintro w' ⟨s0,s1,s2⟩
    have q0:=cell_of (j:=0) s0 rfl
    have q1:=cell_of (j:=1) s0 rfl
    have q2:=cell_of (j:=2) s0 rfl
    have q3:=cell_of (j:=3) s0 rfl
    have q4:=cell_of (j:=4) s0 rfl
    have q5:=cell_of (j:=5) s0 rfl
    go_simp
    with_reducible rfl)
   refine tA 1 71 (bmE 7 7) hHeld ?_ (hy:=by
    rintro w' ⟨s0,s1,s2⟩
    have q0:=cell_of (j:=0) s1 rfl
    have q1:=cell_of (j:=1) s1 rfl
    have q2:=cell_of (j:=2) s1 rfl
    go_simp
    with_reducible rfl)
   refine tA 3 73 (bmE 7 15) hHeld ?_ (hy:=by
    rintro w' ⟨s0,s1,s2⟩
    have q3:=cell_of (j:=3) s2 rfl
    go_simp
    with_reducible rfl)
   refine one_ (i:=4) (N:=none) (bmE 7 31) rfl rfl (by kernel_rfl) (by decide) (fun K hK => ?_)
   refine sA ?_
   refine hK.out _ _ ⟨(store6_other _ (g:=w.heap.size+1+1) (by omega) _ _ _ _ _ _).trans hHeld.1,(store6_other _ (g:=w.heap.size+1+1) (by omega) _ _ _ _ _ _).trans hHeld.2.1,(store6_other _ (g:=w.heap.size+1+1) (by omega) _ _ _ _ _ _).trans hHeld.2.2⟩ (fun hHeld => ?_)
   have hA15:=(store6_other Wd (g:=w.heap.size+1+1) (k:=w.heap.size+1+1+1) (by omega) (.string u.name) (.int .u8 u.kind) (.string u.data) (.slice A8 u.files.length c8) (.slice Al l.length cl) (.slice A6 fr.length c6)).trans HA
   obtain ⟨yy0,yy1,yy2⟩:=c3A hA15
   obtain ⟨nn0,nn1,nn2⟩:=u3A hA15
   clear hA15 HZ HA z0 z1 z2 z3 z4 z5 u0 u1 u2 u3 u4 u5 y0 y1 y2 n0 n1 n2
   generalize ((((((Wd.setCell ⟨w.heap.size+1+1,0,none⟩ (.string u.name)).setCell ⟨w.heap.size+1+1,1,none⟩ (.int .u8 u.kind)).setCell ⟨w.heap.size+1+1,2,none⟩ (.string u.data)).setCell ⟨w.heap.size+1+1,3,none⟩ (.slice A8 u.files.length c8)).setCell ⟨w.heap.size+1+1,4,none⟩ (.slice Al l.length cl)).setCell ⟨w.heap.size+1+1,5,none⟩ (.slice A6 fr.length c6))=W15 at *
   refine one_ (i:=5) (N:=none) (bmE 7 63) rfl rfl (by kernel_rfl) (by decide) (fun K hK => ?_)
   refine sA ?_
   refine hK.out _ _ ⟨(store3_other _ (g:=w.heap.size+1+1+1) (by omega) _ _ _).trans hHeld.1,(store3_other _ (g:=w.heap.size+1+1+1) (by omega) _ _ _).trans hHeld.2.1,(store3_other _ (g:=w.heap.size+1+1+1) (by omega) _ _ _).trans hHeld.2.2⟩ (fun hHeld => ?_)
   refine pA 6 6 (bmE 7 127) ?_
   refine done_ (by kernel_rfl) ?_
   go_wp2_with fail
   refine bodyPost_ret (results_cct rfl _ _ (w.heap.size+1+1) (w.heap.size+1+1+1) 36 46 #[.string u.name,.int .u8 u.kind,.string u.data,.slice A8 u.files.length c8,.slice Al l.length cl,.slice A6 fr.length c6] #[.int .u8 ua.kind,.int .i64 ua.size,.string ua.data] (0,0) (0,0) _ _ rfl HST.out.1 Tryz.underlying36 rfl (by kernel_rfl) rfl HST.out.2.1 Tryz.underlying46 rfl (by kernel_rfl)) rfl ?_
   refine ⟨A8,c8,A6,c6,rfl,hc8,hN6,fun Wx hx1 hx2 hx3=>⟨HUF.out Wx hx1 (fun k h1 h2=>(hx3 k (by omega) (Nat.lt_of_lt_of_le (show k<Wd.heap.size by omega) HST.out.2.2.size)).trans ((HST.out.2.2.block k (by omega) (by omega)).trans ((HKD.out k (by omega)).trans ((HVW.out k (by omega)).trans (HMW.out k (by omega) (by omega) (by omega) (by omega)))))),(Kd.N_reads' (Kd.N_step HN.out fun k hk hl => ?_)).2.2⟩,HBV.out⟩
   have hk2:(w.heap.size+3<k∧k<W9.heap.size∧k≠g6)∨W13.heap.size≤k:=hk
   exact (hx3 k (by omega) (Nat.lt_of_lt_of_le (show k<Wd.heap.size by omega) HST.out.2.2.size)).trans ((HST.out.2.2.block k (by omega) (by omega)).trans (HKD.out k (by omega)))
end Go.Proofs.YthlcjjhfkldmhaaGreatDoor.G
end
