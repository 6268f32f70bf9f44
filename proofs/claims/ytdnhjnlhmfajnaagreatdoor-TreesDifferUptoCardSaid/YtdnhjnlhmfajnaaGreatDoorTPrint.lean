import Derived.Test.YtdnhjnlhmfajnaaGreatDoorKit
import Derived.Test.YtdnhjnlhmfajnaaGreatDoorSq
import Derived.Test.YtdnhjnlhmfajnaaGreatDoorTLine
import Derived.Test.YtdnhjnlhmfajnaaGreatDoorTRight
import Derived.Test.YtdnhjnlhmfajnaaGreatDoorTBuildF
import Derived.Test.YtdnhjnlhmfajnaaGreatDoorRoundOp
set_option linter.unusedVariables false
set_option linter.unusedSimpArgs false
namespace Go.Proofs.YtdnhjnlhmfajnaaGreatDoor.G
open Go.RowKit Go.Shelf Go.Lib Go.Proofs.YtdnhjnlhmfajnaaGreatDoorW.PrintWords Go.Proofs.YtdnhjnlhmfajnaaGreatDoorW.PrintLast
attribute [local go_sem] Oper.semAt_some
set_option linter.unusedVariables false
set_option linter.unusedSimpArgs false
theorem own_only {base e size n:Nat} {w w1:World} {v:Value} {xs:List Value} {H:Nat→Prop} (h:w.ownsRow base e size v n xs) (ho:Only H w w1) (hn:∀ k,v.ownBlock=some k→¬ H k):w1.ownsRow base e size v n xs :=
 own_move h fun k hk=>ho.block k (own_lt h k hk) (hn k hk)
theorem BAt_only {B b:Nat} {l:List UInt8} {v:Value} {X Y:World} {H:Nat→Prop} (h:BAt B b l v X) (ho:Only H X Y) (hn:∀ k,BOwn b v k→¬ H k):BAt B b l v Y:=by
 obtain ⟨h1,⟨p,hp,hb⟩,h2,h3⟩:=h
 exact ⟨h1,⟨p,hp,(ho.block b (blk_lt hb) (hn b (.inl rfl))).trans hb⟩,own_only h2 ho fun k hk=>hn k (.inr hk),h3⟩
theorem BAt_built {B b:Nat} {l:List UInt8} {v:Value} {X:World} (h:BAt B b l v X):Built B b l X:=by
 obtain ⟨h1,⟨p,rfl | rfl,hb⟩,h2,h3⟩:=h
 ·exact .inl ⟨h1,v,hb,by simpa [Lib.byteCells] using h2,h3⟩
 ·exact .inr ⟨h1,v,hb,by simpa [Lib.byteCells] using h2,h3⟩
theorem Tab_below {w W:World} (h:Tab w) (hb:Below w.heap.size w W):Tab W:=fun i hi=>(hb.cell (World.block_lt_of_cell? w _ (h i hi))).trans (h i hi)
theorem blk_ltM {W:World} {k:Nat} (h:Worded W k):k<W.heap.size:=(Array.getElem?_eq_some_iff.1 h).1
theorem BAt_base {B b:Nat} {l:List UInt8} {v:Value} {X:World} (h:BAt B b l v X) (k:Nat) (hk:BOwn b v k):B≤k:=by
 rcases hk with rfl | hk
 ·exact h.1
 ·exact own_base h.2.2.1 k hk
def Way (B b:Nat) (u:Value) (W2:World) (l:List UInt8) (v:Value) (W:World):Prop :=
 Only (BOwn b u) W2 W∧BAt B b l v W∧∀ k,BOwn b v k→BOwn b u k∨(W2.heap.size≤k∧k<W.heap.size)
theorem Way.below {B b:Nat} {u:Value} {W2 W W':World} {l:List UInt8} {v:Value} (h:Way B b u W2 l v W) (hb:Below W.heap.size W W'):Way B b u W2 l v W' :=
 ⟨h.1.trans (Only.of_below hb (BOwn b u)) (fun _ _ h=>h) (fun _ _ h=>h),BAt_only h.2.1 (Only.of_below hb (fun _=>False)) (fun _ _ h=>h),fun k hk=>(h.2.2 k hk).imp id fun h=>⟨h.1,Nat.lt_of_lt_of_le h.2 hb.size⟩⟩
theorem Way.write {B b:Nat} {u:Value} {W2 W W':World} {l m:List UInt8} {v v':Value} (h:Way B b u W2 l v W) (hB:BAt B b m v' W') (ho:Only (BOwn b v) W W') (hv:∀ k,v'.ownBlock=some k→BOwn b v k∨(W.heap.size≤k∧k<W'.heap.size)):Way B b u W2 m v' W':=by
 have hs:=h.1.size
 have hs':=ho.size
 refine ⟨h.1.trans ho (fun _ _ h=>h) (fun k hk e=>(h.2.2 k e).resolve_right (fun q=>by omega)),hB,fun k hk => ?_⟩
 have h2:BOwn b v k→BOwn b u k∨(W2.heap.size≤k∧k<W'.heap.size):=fun e=>(h.2.2 k e).imp id fun q=>⟨q.1,by omega⟩
 rcases hk with rfl | hk
 ·exact h2 (.inl rfl)
 ·rcases hv k hk with e | e
  ·exact h2 e
  ·exact .inr ⟨by omega,e.2⟩
theorem lineB_dir {q:List ByteArray} {x:File} (h:x.kind=1):lineB (q,x)=(headS q x.kind).data.toList++[10]:=by
 show (headS q x.kind).data.toList++(if x.kind=1 then [] else (tailS x.data).data.toList)++[10]=_
 rw [if_pos h,List.append_nil]
theorem lineB_other {q:List ByteArray} {x:File} (h:x.kind≠1):lineB (q,x)=(headS q x.kind).data.toList++(tailS x.data).data.toList++[10]:=by
 show (headS q x.kind).data.toList++(if x.kind=1 then [] else (tailS x.data).data.toList)++[10]=_
 rw [if_neg h]
def IPr (w0:World) (b:Nat) (pre:List (List ByteArray×File)) (F G:Nat→Prop) (W:World):Prop :=
 Below w0.heap.size w0 W∧∃ v,BAt w0.heap.size b (printL pre) v W∧∀ k,F k↔BOwn b v k
theorem IPr_own (w0:World) (b B:Nat) (hB:w0.heap.size≤B):OwnF B (IPr w0 b):=by
 rintro s F G X Y ⟨hb,v,hv,hF⟩ ho
 refine ⟨hb.trans (ho.below hb.size fun k hk h=>by omega),v,BAt_only hv ho fun k hk h=>h.2.1 ((hF k).2 hk),hF⟩
theorem last_more {P:Program} {md:Region.Mode} {ops:Array Oper} {Q:Exit→Act→World→Prop} {S T:World→Prop}:∀ (fuel:Nat) (listed:Array Bool) (a:Act) (w:World),S w→T w→wpAnyLast P md ops Q (fun w=>S w∧T w) [] fuel listed a w→wpAnyLast P md ops Q S [] fuel listed a w
 | 0,_,_,_,_,_,h=>h
 | fuel+1,listed,a,w,hS,hT,h=>⟨h.1,fun i hi=>wpOp_mono (fun a' w' h'=>⟨fun _ _=>(h'.1 (by simp) ⟨hS,hT⟩).1,last_more fuel _ a' w' (h'.1 (by simp) ⟨hS,hT⟩).1 (h'.1 (by simp) ⟨hS,hT⟩).2 h'.2⟩) (h.2 i hi)⟩
set_option maxHeartbeats 8000000 in
set_option maxRecDepth 100000 in
theorem print_calls (f:File) (A:Option Addr) (c:Nat) (w:World) (hbk:f.bulk≤6500000) (hr:FileK.C w A f.files.length f.files) (hc:f.files.length≤c) (hG:Tab w) :
  Calls Tryz.prog 9 #[fileV f A c] w fun e w'=>e=.returned (.tuple (if rightT f then #[.string ⟨(printL (preF [] f)).toArray⟩,.int .i64 0] else #[.string ⟨#[]⟩,.int .i64 30]))∧Below w.heap.size w w':=by
 have HB0:=Lib.hid (below_alloc (Below.refl w.heap.size w) (.cells (fc f A c) 25))
 have hn0:=blk_new w (.cells (fc f A c) 25)
 have hz0:(w.alloc (.cells (fc f A c) 25)).heap.size=w.heap.size+1:=by simp
 have HRT:=Lib.hid (right_calls f A c _ (by omega) (Kd.C_below hr HB0.out) hc)
 have HEA:=Lib.hid (fun W=>each_calls f A c W)
 have HR:=Lib.hid hr
 have HG:=Lib.hid hG
 have HPL:=Lib.hid (print_len f hbk)
 have HPB:=Lib.hid (preF_bound f [])
 have HPC:=Lib.hid (preF_count f [])
 have HBE:=Lib.hid (bulk_eq f)
 clear hr hG
 refine (callsIn_wide (n:=5)).1 ?_
 refine callsIn_of_wp_marks Tryz.func9 rfl trivial (wpIn_wide.2 ?_) rfl
 simp only [Tryz.ntmps9,List.size_toArray,List.length_cons,List.length_nil,Nat.reduceAdd,Nat.reduceSub,Array.replicate_succ,Array.replicate_zero,List.push_toArray,List.append_toArray,List.nil_append,List.cons_append]
 unfold fileV
 go_wp2_with fail
 generalize hW0:w.alloc (.cells (fc f A c) 25)=W0 at *
 refine HRT.out.mono ?_
 rintro e w1 ⟨rfl,hb1⟩
 have hb1w:=HB0.out.trans (hb1.mono (by omega))
 have hn1:=(hb1.block w.heap.size (by omega)).trans hn0
 have hs1:=hb1.size
 cases hrt:rightT f
 ·go_wp2_with fail
  all_goals exact ⟨_,results_tmp2 rfl _ _ _,rfl,hb1w⟩
 ·have hbx:=below_alloc (Below.refl w1.heap.size w1) (.cells #[.pointer none,.slice none 0 0] 66)
  have hzx:w1.heap.size<(w1.alloc (.cells #[.pointer none,.slice none 0 0] 66)).heap.size:=by simp
  have hnb:=blk_new w1 (.cells #[.pointer none,.slice none 0 0] 66)
  have hn2:=(hbx.block w.heap.size (by omega)).trans hn1
  obtain ⟨y0,y1,y2,y3⟩:=c4A hn2
  go_wp2_with fail
  generalize w1.alloc (.cells #[.pointer none,.slice none 0 0] 66)=W1 at *
  refine (HEA.out _).mono ?_
  rintro e w2 ⟨rfl,hw2⟩
  have hbe:=below_alloc (Below.refl W1.heap.size W1) (.cells (fc f A c) 25)
  have hne:=blk_new W1 (.cells (fc f A c) 25)
  have hze:(W1.alloc (.cells (fc f A c) 25)).heap.size=W1.heap.size+1:=by simp
  rw [← hw2] at hbe hne hze
  have hnb2:=(hbe.block w1.heap.size (by omega)).trans hnb
  have hb2w:Below w.heap.size w w2:=((hb1w.trans (hbx.mono (by omega))).trans (hbe.mono (by omega)))
  have hB2:BAt w.heap.size w1.heap.size [] (.slice none 0 0) w2:=⟨by omega,⟨_,.inl rfl,hnb2⟩,own_nil _ _ _ _,by simp [Value.ownBlock]⟩
  have HGI:=Lib.hid (each_gives w w2 f A c W1.heap.size (by omega) HR.out hc hb2w (by omega) hne)
  clear y0 y1 y2 y3 hw2 hnb hbx hbe hne hnb2 hn2 hn1 HRT
  go_wp2_with fail
  refine (wpIn_wide (n:=5)).1 ?_
  apply wpIn_rangeR (n:=5) (gf:=77) (lb:=#[.pointer (some ⟨W1.heap.size,0,none⟩)]) (Enc:=EncF w w2.heap.size) (Hd:=HdF) (Prot:=fun k=>k<w.heap.size∨k=W1.heap.size) (full:=preF [] f)
   (I:=IPr w w1.heap.size) (Ix:=fun _ _ _ _=>False) (F0:=BOwn w1.heap.size (.slice none 0 0)) (G0:=fun _=>False)
  case hg=>rfl
  case eg=>exact enters_of Tryz.func77 (by kernel_rfl) rfl
  case hseq=>exact HGI.out
  case hps =>
   rintro x args W ⟨v,A',c',rfl,_⟩
   rfl
  case hHd =>
   rintro x args W ⟨v,A',c',rfl,h1,_⟩ k ⟨u,hu,hk⟩
   obtain rfl:v=u:=by simpa using hu
   obtain ⟨_,_,_,q,_,cells,hq⟩:=(Kd.R_bound h1).1 k hk
   exact ⟨q,cells,_,hq⟩
  case hProt=>rintro k (h | rfl) <;> omega
  case hF0 =>
   rintro k (rfl | h)
   ·exact ⟨by omega,by omega⟩
   ·simp [Value.ownBlock] at h
  case hG0=>exact fun _ h=>h.elim
  case hI=>exact IPr_own w _ _ (by omega)
  case hIx=>exact fun _ _ _ _ _ h _=>h.elim
  case h0=>exact ⟨hb2w,_,hB2,fun _=>Iff.rfl⟩
  case hstop=>exact fun _ _ _ _ _ _ _ h=>h.elim
  case hdone =>
   intro D F G W hD hI hK
   obtain ⟨hIb,u,hIu,hIF⟩:=hI
   have hws:=hIb.size
   have HS:=Lib.hid (Tryz.Builder_String_any_k w.heap.size w1.heap.size (printL (preF [] f)) W ((BAt_built hIu).imp Lib.BuilderAtF.of Lib.BuilderAtF.of) hws)
   have hDb:D≠w1.heap.size:=fun e=>by
    obtain ⟨_,⟨p,_,hb⟩,_⟩:=hIu
    rw [e,hb] at hK
    cases hK
   have hDW:=(Array.getElem?_eq_some_iff.1 hK).1
   go_wp2_with fail
   refine HS.out.mono ?_
   rintro e w9 ⟨rfl,_,hb9,hk9⟩
   have hK9:w9.heap[D]? = some (.deferred (some [])):=hk9 D _ hK (fun e=>hDb (by injection e)) (fun _ _ e=>by cases e)
   have hbF:=(hIb.trans hb9).grown (grownBy_putObj' w9 D (.deferred none)) (Nat.le_trans hws hb9.size) (fun r e=>by cases e;omega)
   clear hb9 hk9 HS hK
   go_wp2_with fail
   all_goals exact ⟨by simp,.inl ⟨_,_,rfl,run_takeDeferred hK9,⟨_,results_tmp2 rfl _ _ _,rfl,hbF⟩⟩⟩
  case hround =>
   intro l m pre x args F G W hl hlW hLp hFl hGl hI hpx hE hHF
   obtain ⟨q,x⟩:=x
   obtain ⟨v,A',c',rfl,hv,hC',hc'⟩:=hE
   simp only at hv hC' hc'
   unfold fileV
   have hWs:=Below.size hI.1
   have HO1:=Lib.hid (Only.alloc (fun _=>False) W (.cells (fc x A' c') 25))
   have HN1:=Lib.hid (blk_new W (.cells (fc x A' c') 25))
   gi_wp2
   refine ⟨HO1.out,fun o' => ?_⟩
   have hlW1:l<(W.alloc (.cells (fc x A' c') 25)).heap.size:=by simp;omega
   have HO2:=Lib.hid ((HO1.out.trans (Only.putObj _ l (.loop o')) (K:=fun k=>k=l) (fun _ _ h=>h.elim) (fun _ _ h=>h)))
   have HN2:=Lib.hid ((World.putObj_heap_other (o:=.loop o') (show W.heap.size≠l by omega)).trans HN1.out)
   have hz2:W.heap.size<((W.alloc (.cells (fc x A' c') 25)).putObj l (.loop o')).heap.size:=by simp [World.putObj]
   generalize ((W.alloc (.cells (fc x A' c') 25)).putObj l (.loop o'))=W2 at *
   obtain ⟨r,hr⟩:=hLp
   have HV2:=Lib.hid (R_only (Kd.R_bound hv) HO2.out fun k hk e=>by obtain ⟨_,_,_,qq,_,cells,hq⟩:=hk;rw [e,hr] at hq;cases hq)
   have hbw2:Below w.heap.size w W2:=hI.1.trans (HO2.out.below hI.1.size fun k hk e=>by omega)
   have hmem:=hpx.subset (List.mem_append_right _ (List.mem_singleton.2 rfl))
   have hq:=HPB.out _ hmem
   simp only [List.length_nil] at hq
   have hbe:=HBE.out
   have hs0:(shownS []).size=0:=rfl
   have hql:q.length≤1099511627776:=by omega
   have hqs:(shownS q).size≤70368744177664:=by omega
   have hds:x.data.size≤6500000:=by omega
   obtain ⟨Aq,cq,rfl,hcq,hCq⟩:=Kd.R_reads hv
   have HQ:Hid (∀ W,Below w.heap.size w W→(shownS q).size≤70368744177664→Calls Tryz.prog 40 #[.string (shownS q)] W fun e w'=>e=.returned (.string ⟨(quoteQ (shownS q)).toArray⟩)∧Below W.heap.size W w') :=
    Lib.hid fun W hb _=>quote_calls toldB toldB_len _ W (by omega) (Lib.hid fun y W' hb'=>told_calls y W' (Tab_below HG.out (bstep hb hb.size hb')))
   have z1:W2.cell? ⟨W.heap.size,1,none⟩=some (.int .u8 x.kind):=cell_of HN2.out rfl
   obtain ⟨hIb,u,hIu,hIF⟩:=hI
   have HB2:=Lib.hid (BAt_only hIu HO2.out fun k hk e=>hFl ((hIF l).2 (e ▸ hk)))
   have hPL:=HPL.out pre (List.IsPrefix.trans (List.prefix_append _ _) hpx)
   have hhs:=headS_size q x.kind
   have hlen5:(printL pre).length+(headS q x.kind).size≤70368744177664:=by omega
   have hg1:¬ (9223372036854775807<(wordS x.kind).size+1):=by have:=wordS_size x.kind;omega
   have hg2:¬ (9223372036854775807<(wordS x.kind).size+1+(quoteQ (shownS q)).length):=by have:=wordS_size x.kind;have:=quoteQ_len (shownS q);omega
   have hnB:∀ k,W.heap.size≤k→¬ BOwn w1.heap.size u k:=fun k hk h=>by
    rcases h with rfl | h
    ·obtain ⟨_,⟨p,_,hb⟩,_⟩:=hIu
     have:=blk_lt hb
     omega
    ·have:=own_lt hIu.2.2.1 k h
     omega
   have HLN5:=Lib.hid hlen5
   clear hlen5 hhs hPL
   clear hCq hbe hs0 hmem hv
   gi_wp2
   refine startIn_ (n:=10) (S:=fun w'=>w'.cell? ⟨W.heap.size,1,none⟩=some (.int .u8 x.kind)) (ds:=[]) #[false,false,false,false,false,false,false,false,false,false] (by kernel_rfl) (by kernel_rfl) (by rintro ⟨a,w,h⟩;exact h) rfl rfl z1 (fun hHeld => ?_)
   refine pA 1 15 #[false,true,false,false,false,false,false,false,false,false] ?_
   refine pA 5 19 #[false,true,false,false,false,true,false,false,false,false] ?_
   refine tA 2 16 #[false,true,true,false,false,true,false,false,false,false] hHeld ?_ (hy:=by
    rintro w' s0
    go_simp
    with_reducible rfl)
   refine eA 0 14 #[true,true,true,false,false,true,false,false,false,false] (fun K hK => ?_)
   refine goes_ Tryz.func39 (by kernel_rfl) rfl #[] (by rfl) rfl rfl (by simp only [List.map_toArray,List.map_cons,List.map_nil]) ?_
   refine (words_calls _).mono ?_
   rintro e w3 ⟨rfl,hw3,hb3⟩
   refine ⟨_,rfl,?_⟩
   have hszd:W2.drew.heap.size=W2.heap.size:=rfl
   rw [hszd] at hw3 hb3 ⊢
   have hb3':Below W2.heap.size W2 w3:=(bdrew (Below.refl W2.heap.size W2)).trans hb3
   have HN3:=Lib.hid ((hb3'.block W.heap.size hz2).trans HN2.out)
   have hs3:=hb3'.size
   have HV3:=Lib.hid (Kd.R_below HV2.out hb3')
   have HSC:=Lib.hid (shown_calls Aq cq q w3 (Kd.R_reads' HV3.out).2.2 hcq hql hqs)
   refine hK.out _ _ (cell_of HN3.out rfl) (fun hHeld => ?_)
   refine nA 14 ?_
   refine last_more (T:=fun w'=>Worded w' W2.heap.size) _ _ _ _ hHeld hw3 ?_
   replace hHeld:w3.cell? ⟨W.heap.size,1,none⟩=some (.int .u8 x.kind)∧Worded w3 W2.heap.size:=⟨hHeld,hw3⟩
   refine tA 3 17 #[true,true,true,true,false,true,false,false,false,false] hHeld ?_ (hy:=by
    rintro w' ⟨s0,s1⟩
    have hlk:=lookup_words w' _ x.kind s1
    go_simp
    with_reducible rfl)
   refine pA 4 18 #[true,true,true,true,true,true,false,false,false,false] ?_
   refine eA 6 20 #[true,true,true,true,true,true,true,false,false,false] (fun K hK => ?_)
   refine gA Tryz.func41 #[.slice Aq q.length cq] ?_
   refine HSC.out.mono ?_
   rintro e w4 ⟨rfl,rfl⟩
   refine ⟨_,rfl,?_⟩
   refine hK.out _ _ hHeld (fun hHeld => ?_)
   refine nA 20 ?_
   refine eA 7 21 #[true,true,true,true,true,true,true,true,false,false] (fun K hK => ?_)
   refine gA Tryz.func40 #[.string (shownS q)] ?_
   refine (HQ.out w4 (hbw2.trans (hb3'.mono (by omega))) hqs).mono ?_
   rintro e w5 ⟨rfl,hb5⟩
   refine ⟨_,rfl,?_⟩
   have hs5:=hb5.size
   have HN5:=Lib.hid ((hb5.block W.heap.size (by omega)).trans HN3.out)
   refine hK.out _ _ ⟨cell_of HN5.out rfl,(hb5.block _ (blk_ltM hHeld.2)).trans hHeld.2⟩ (fun hHeld => ?_)
   refine nA 21 ?_
   refine pA 8 22 #[true,true,true,true,true,true,true,true,true,false] ?_
   refine eA 9 23 #[true,true,true,true,true,true,true,true,true,true] (fun K hK => ?_)
   refine gA Tryz.func38 #[.pointer (some ⟨w1.heap.size,0,none⟩),.string (headS q x.kind)] ?_
   refine (writeStringF_calls _ _ _ _ _ w5 (BAt_only (BAt_only HB2.out (Only.of_below hb3' (fun _=>False)) fun _ _ h=>h) (Only.of_below hb5 (fun _=>False)) fun _ _ h=>h) HLN5.out (by omega)).mono ?_
   rintro e w6 ⟨rfl,v6,hB6,ho6,hv6⟩
   refine ⟨_,rfl,?_⟩
   have hs6:=ho6.size
   have HN6:=Lib.hid ((ho6.block W.heap.size (by omega) (hnB _ (Nat.le_refl _))).trans HN5.out)
   refine hK.out _ _ ⟨cell_of HN6.out rfl,(ho6.block _ (blk_ltM hHeld.2) (hnB _ (by omega))).trans hHeld.2⟩ (fun _ => ?_)
   refine nA 23 ?_
   refine done_ (by kernel_rfl) ?_
   clear hHeld hw3 z1 hg1 hg2
   have z2:w6.cell? ⟨W.heap.size,1,none⟩=some (.int .u8 x.kind):=cell_of HN6.out rfl
   have z3:w6.cell? ⟨W.heap.size,2,none⟩=some (.string x.data):=cell_of HN6.out rfl
   have HWY:Hid (Way w.heap.size w1.heap.size u W2 (printL pre++(headS q x.kind).data.toList) v6 w6):=Lib.hid (Way.write (Way.below (Way.below ⟨Only.refl _ _,HB2.out,fun _ h=>.inl h⟩ hb3') hb5) hB6 ho6 hv6)
   have hbw6:Below w.heap.size w w6:=(((hbw2.trans (hb3'.mono (by omega))).trans (hb5.mono (by omega))).trans (ho6.below (by omega) (fun k hk h=>by
    rcases h with rfl | h
    ·omega
    ·have:=own_base hIu.2.2.1 k h
     omega)))
   have hFin:∀ (a7:Act) v7 w7,Way w.heap.size w1.heap.size u W2 (printL (pre++[(q,x)])) v7 w7→Below w.heap.size w w7→roundR (IPr w w1.heap.size) (fun _ _ _ _=>False) HdF (pre++[(q,x)]) #[.slice Aq q.length cq,.agg (fc x A' c')] F G W W2 .normal a7 w7:=by
    intro a7 v7 w7 hw hb
    refine ⟨BOwn w1.heap.size v7,G,hw.1.mono fun k _ h=>(hIF k).2 h,fun k h => ?_,fun k h=>.inl h,hb,v7,hw.2.1,fun _=>Iff.rfl⟩
    rcases hw.2.2 k h with h | h
    ·exact .inl ((hIF k).2 h)
    ·exact .inr ⟨by omega,h.2⟩
   have hPL:=HPL.out (pre++[(q,x)]) hpx
   rw [printL_snoc] at hPL
   have HFIN:=Lib.hid hFin
   clear hFin hb3 hb3' hb5 hB6 ho6 hv6 HSC HQ hIu hIb
   by_cases hk1:x.kind=1
   ·rw [lineB_dir hk1,← List.append_assoc] at hPL
    have HLD:=Lib.hid (show printL pre++(headS q x.kind).data.toList++[10]=printL (pre++[(q,x)]) by rw [printL_snoc,lineB_dir hk1,List.append_assoc])
    have H7:=Lib.hid (writeByteF_calls _ _ _ _ 10 w6 HWY.out.2.1 (by simp only [List.length_append,List.length_cons,List.length_nil] at hPL ⊢;omega) (by omega))
    clear hPL
    gi_wp2
    refine ⟨trivial,(fun h=>by cases h),?_⟩
    refine (CallsIn.inRound l (callsIn_wide.2 H7.out)).mono ?_
    rintro e w7 ⟨rfl,v7,hB7,ho7,hv7⟩
    have hw7:=Way.write HWY.out hB7 ho7 hv7
    rw [HLD.out] at hw7
    gi_wp2
    exact HFIN.out _ v7 w7 hw7 (hbw6.trans (ho7.below (by omega) fun k hk h=>by have:=BAt_base HWY.out.2.1 k h;omega))
   ·rw [lineB_other hk1,← List.append_assoc,← List.append_assoc] at hPL
    have HLD:=Lib.hid (show printL pre++(headS q x.kind).data.toList++(tailS x.data).data.toList++[10]=printL (pre++[(q,x)]) by rw [printL_snoc,lineB_other hk1,← List.append_assoc,← List.append_assoc])
    have hqd:=quoteQ_len x.data
    have hg3:¬ (9223372036854775807<1+(quoteQ x.data).length):=by omega
    have k1:(x.kind != 1)=true:=by rw [bne_iff_ne];exact hk1
    have HQD:Hid (Calls Tryz.prog 40 #[.string x.data] w6 fun e w'=>e=.returned (.string ⟨(quoteQ x.data).toArray⟩)∧Below w6.heap.size w6 w') :=
     Lib.hid (quote_calls toldB toldB_len _ w6 (by omega) (Lib.hid fun y W' hb'=>told_calls y W' (Tab_below HG.out (bstep hbw6 hbw6.size hb'))))
    clear hqd
    gi_wp2
    refine ⟨trivial,(fun h=>by cases h),?_⟩
    refine (CallsIn.inRound l (callsIn_wide.2 HQD.out)).mono ?_
    rintro e w7 ⟨rfl,hb7⟩
    have hs7:=hb7.size
    have HW7:=Lib.hid (Way.below HWY.out hb7)
    have H8:=Lib.hid (writeStringF_calls _ _ _ _ (tailS x.data) w7 HW7.out.2.1 (by rw [Lib.size_eq];simp only [List.length_append,List.length_cons,List.length_nil] at hPL ⊢;omega) (by omega))
    gi_wp2
    refine ⟨trivial,(fun h=>by cases h),?_⟩
    refine (CallsIn.inRound l (callsIn_wide.2 H8.out)).mono ?_
    rintro e w8 ⟨rfl,v8,hB8,ho8,hv8⟩
    have hs8:=ho8.size
    have HW8:=Lib.hid (Way.write HW7.out hB8 ho8 hv8)
    have hb8:=(hbw6.trans (hb7.mono (by omega))).trans (ho8.below (by omega) fun k hk h=>by have:=BAt_base HW7.out.2.1 k h;omega)
    have H9:=Lib.hid (writeByteF_calls _ _ _ _ 10 w8 hB8 (by simp only [List.length_append,List.length_cons,List.length_nil] at hPL ⊢;omega) (by omega))
    clear hPL hB8 ho8 hv8 hb7
    gi_wp2
    refine ⟨trivial,(fun h=>by cases h),?_⟩
    refine (CallsIn.inRound l (callsIn_wide.2 H9.out)).mono ?_
    rintro e w9 ⟨rfl,v9,hB9,ho9,hv9⟩
    have hw9:=Way.write HW8.out hB9 ho9 hv9
    rw [HLD.out] at hw9
    gi_wp2
    exact HFIN.out _ v9 w9 hw9 (hb8.trans (ho9.below (by omega) fun k hk h=>by have:=BAt_base HW8.out.2.1 k h;omega))
end Go.Proofs.YtdnhjnlhmfajnaaGreatDoor.G
