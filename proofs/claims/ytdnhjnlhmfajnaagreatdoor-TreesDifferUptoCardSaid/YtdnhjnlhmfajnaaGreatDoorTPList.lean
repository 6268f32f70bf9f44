import Derived.Test.YtdnhjnlhmfajnaaGreatDoorKit
import Derived.Test.YtdnhjnlhmfajnaaGreatDoorTPrint
import Derived.Test.YtdnhjnlhmfajnaaGreatDoorTKept
import Derived.Test.YtdnhjnlhmfajnaaGreatDoorAppIn
set_option linter.unusedVariables false
set_option linter.unusedSimpArgs false
namespace Go.Proofs.YtdnhjnlhmfajnaaGreatDoor.G
open Go.RowKit Go.Shelf Go.Lib Go.Proofs.YtdnhjnlhmfajnaaGreatDoorW.PrintWords Go.Proofs.YtdnhjnlhmfajnaaGreatDoorW.PrintLast
attribute [local go_sem] Oper.semAt_some
set_option linter.unusedVariables false
set_option linter.unusedSimpArgs false
theorem append_kept {w0 W:World} (ty:TypeId) (base:Nat) (ok okp:Nat→Prop) (v:Value) (l:List (List ByteArray×(Int×Int))) (vq:Value) (q:List ByteArray) (k s:Int) (hq:Kd.R Kd.string 9 W base okp vq q) (hokp:∀ k,okp k→ok k∧some k≠v.ownBlock)
  (HO:KeptK.R 49 W base ok v l) (HB:Below base w0 W) (hbase:base≤W.heap.size) (hfresh:∀ k,W.heap.size≤k→ok k) (hl:(l.length+1) * 40≤140737488355328) :
  ∃ v1 w1,(Builtin.append_ #[45,45] ty #[v,.slice (some ⟨W.heap.size,0,none⟩) 1 1]).run Tryz.prog (W.alloc (.cells #[vq,.int .u8 k,.int .i64 s] 49))=.ok v1 w1 ∧
   KeptK.R 49 w1 base ok v1 (l++[(q,(k,s))])∧Below base w0 w1∧W.grownBy w1 v.ownBlock∧(v1.ownBlock=v.ownBlock∨∃ b,v1.ownBlock=some b∧W.heap.size≤b) :=
 append_run (P:=Tryz.prog) (W:=W.alloc (.cells #[vq,.int .u8 k,.int .i64 s] 49)) (t:=45) (ty:=ty) (v:=v) (vx:=.slice (some ⟨W.heap.size,0,none⟩) 1 1)
  (R:=fun v1 w1=>KeptK.R 49 w1 base ok v1 (l++[(q,(k,s))])∧Below base w0 w1∧W.grownBy w1 v.ownBlock∧(v1.ownBlock=v.ownBlock∨∃ b,v1.ownBlock=some b∧W.heap.size≤b))
  (o := { dst := some 0, op := .call { callee := .builtin .append, args := #[.const v, .const (.slice (some ⟨W.heap.size, 0, none⟩) 1 1)], argTypes := #[45, 45] }, type := ty, pos := "", after := #[], guard := none })
  ⟨#[undef],[]⟩ rfl rfl rfl rfl rfl
  (Kd.R_append KeptK (w0:=w0) base rfl (.const v) (.const (.slice (some ⟨W.heap.size,0,none⟩) 1 1)) 45 49 (.agg #[.slice none 0 0,.int .u8 0,.int .i64 0]) 40 rfl Tryz.underlying45 info_kept rfl (by decide) (by decide) v l (q,(k,s)) [vq,.int .u8 k,.int .i64 s] ok okp rfl rfl (kept_mkM k s hq) hokp hfresh HO HB hbase hl
   fun v1 w1 a1 a2 a3 a4=>⟨rfl,v1,rfl,a1,a2,a3,a4⟩)
def IPl (w0:World) (ob:Nat) (pre:List (List ByteArray×File)) (F G:Nat→Prop) (W:World):Prop :=
 Below w0.heap.size w0 W∧F ob∧∃ v,Boxed W ob 45 v∧(∀ k,v.ownBlock=some k→F k)∧KeptK.R 49 W w0.heap.size (fun k=>F k∨G k) v (pre.map keptE)
theorem IPl_own (w0:World) (ob B:Nat) (hB:w0.heap.size≤B):OwnF B (IPl w0 ob):=by
 rintro s F G X Y ⟨hb,hF,v,hv,ho,hR⟩ h
 exact ⟨hb.trans (h.below hb.size fun k hk q=>by omega),hF,v,Boxed_only hv h fun q=>q.2.1 hF,ho,R_onlyG hR h fun k hk q=>hk.elim q.2.1 q.2.2⟩
set_option maxHeartbeats 8000000 in
set_option maxRecDepth 100000 in
theorem list_calls (f:File) (A:Option Addr) (c:Nat) (w:World) (hbk:f.bulk≤4194304) (hr:FileK.C w A f.files.length f.files) (hc:f.files.length≤c) :
  Calls Tryz.prog 21 #[fileV f A c] w fun e w'=>∃ v,e=.returned (.tuple #[v,.int .i64 (if rightT f then 0 else 30)])∧KeptK.R 49 w' w.heap.size (fun _=>True) v (if rightT f then keptL [] f else [])∧Below w.heap.size w w':=by
 have HB0:=Lib.hid (below_alloc (Below.refl w.heap.size w) (.cells (fc f A c) 25))
 have hn0:=blk_new w (.cells (fc f A c) 25)
 have hz0:(w.alloc (.cells (fc f A c) 25)).heap.size=w.heap.size+1:=by simp
 have HRT:=Lib.hid (right_calls f A c _ (by omega) (Kd.C_below hr HB0.out) hc)
 have HEA:=Lib.hid (fun W=>each_calls f A c W)
 have HR:=Lib.hid hr
 have HPB:=Lib.hid (preF_bound f [])
 have HPC:=Lib.hid (preF_count f [])
 have HBE:=Lib.hid (bulk_eq f)
 clear hr
 refine (callsIn_wide (n:=5)).1 ?_
 refine callsIn_of_wp_marks Tryz.func21 rfl trivial (wpIn_wide.2 ?_) rfl
 simp only [Tryz.ntmps21,List.size_toArray,List.length_cons,List.length_nil,Nat.reduceAdd,Nat.reduceSub,Array.replicate_succ,Array.replicate_zero,List.push_toArray,List.append_toArray,List.nil_append,List.cons_append]
 unfold fileV
 go_wp2_with fail
 generalize hW0:w.alloc (.cells (fc f A c) 25)=W0 at *
 refine HRT.out.mono ?_
 rintro e w1 ⟨rfl,hb1⟩
 have hb1w:=HB0.out.trans (hb1.mono (by omega))
 have hn1:=(hb1.block w.heap.size (by omega)).trans hn0
 have hs1:=hb1.size
 cases hrt:rightT f
 ·go_wp2_with fail
  all_goals exact ⟨_,results_tmp2 rfl _ _ _,_,rfl,Kd.R_nil _ _ _ _ _,hb1w⟩
 ·have hbx:=below_alloc (Below.refl w1.heap.size w1) (.cells #[.slice none 0 0] 45)
  have hzx:w1.heap.size<(w1.alloc (.cells #[.slice none 0 0] 45)).heap.size:=by simp
  have hnb:=blk_new w1 (.cells #[.slice none 0 0] 45)
  have hn2:=(hbx.block w.heap.size (by omega)).trans hn1
  obtain ⟨y0,y1,y2,y3⟩:=c4A hn2
  go_wp2_with fail
  generalize w1.alloc (.cells #[.slice none 0 0] 45)=W1 at *
  refine (HEA.out _).mono ?_
  rintro e w2 ⟨rfl,hw2⟩
  have hbe:=below_alloc (Below.refl W1.heap.size W1) (.cells (fc f A c) 25)
  have hne:=blk_new W1 (.cells (fc f A c) 25)
  have hze:(W1.alloc (.cells (fc f A c) 25)).heap.size=W1.heap.size+1:=by simp
  rw [← hw2] at hbe hne hze
  have hnb2:=(hbe.block w1.heap.size (by omega)).trans hnb
  have hb2w:Below w.heap.size w w2:=((hb1w.trans (hbx.mono (by omega))).trans (hbe.mono (by omega)))
  have HGI:=Lib.hid (each_gives w w2 f A c W1.heap.size (by omega) HR.out hc hb2w (by omega) hne)
  clear y0 y1 y2 y3 hw2 hnb hbx hbe hne hn2 hn1 HRT
  go_wp2_with fail
  refine (wpIn_wide (n:=5)).1 ?_
  apply wpIn_rangeR (n:=5) (gf:=77) (lb:=#[.pointer (some ⟨W1.heap.size,0,none⟩)]) (Enc:=EncF w w2.heap.size) (Hd:=HdF) (Prot:=fun k=>k<w.heap.size∨k=W1.heap.size) (full:=preF [] f)
   (I:=IPl w w1.heap.size) (Ix:=fun _ _ _ _=>False) (F0:=fun k=>k=w1.heap.size) (G0:=fun _=>False)
  case hg=>rfl
  case eg=>exact enters_of Tryz.func77 (by kernel_rfl) rfl
  case hseq=>exact HGI.out
  case hps =>
   rintro x args W ⟨v,A',c',rfl,_⟩
   rfl
  case hHd =>
   rintro x args W ⟨v,A',c',rfl,h1,_⟩ k ⟨u,hu,hk⟩
   obtain rfl:v=u:=by simpa using hu
   obtain ⟨_,_,_,q,_,cells,hq⟩:=(Kd.R_bound h1).1 k hk
   exact ⟨q,cells,_,hq⟩
  case hProt=>rintro k (h | rfl) <;> omega
  case hF0 =>
   rintro k rfl
   exact ⟨by omega,by omega⟩
  case hG0=>exact fun _ h=>h.elim
  case hI=>exact IPl_own w _ _ (by omega)
  case hIx=>exact fun _ _ _ _ _ h _=>h.elim
  case h0=>exact ⟨hb2w,rfl,.slice none 0 0,hnb2,fun k h=>by simp [Value.ownBlock] at h,Kd.R_nil _ _ _ _ _⟩
  case hstop=>exact fun _ _ _ _ _ _ _ h=>h.elim
  case hdone =>
   intro D F G W hD hI hK
   obtain ⟨hIb,hFo,v,hv,hvo,hR⟩:=hI
   have hws:=hIb.size
   have c0:=hv.cell
   have hbF:=hIb.grown (grownBy_putObj' W D (.deferred none)) hws (fun r e=>by cases e;omega)
   have HRF:=Lib.hid (Kd.R_mono (Kd.R_move (w1:=W.putObj D (.deferred none)) (Kd.R_bound hR) fun k hk=>by
    obtain ⟨_,_,_,q,_,cells,hq⟩:=hk
    exact World.putObj_heap_other (fun e=>by rw [e,hK] at hq;cases hq)) (ok':=fun _=>True) fun _ _=>trivial)
   clear hR hvo
   go_wp2_with fail
   all_goals exact ⟨by simp,.inl ⟨_,_,rfl,run_takeDeferred hK,⟨_,results_tmp2 rfl _ _ _,_,rfl,HRF.out,hbF⟩⟩⟩
  case hround =>
   intro l m pre x args F G W hl hlW hLp hFl hGl hI hpx hE hHF
   obtain ⟨q,x⟩:=x
   obtain ⟨v,A',c',rfl,hv,hC',hc'⟩:=hE
   simp only at hv hC' hc'
   unfold fileV
   have hWs:=Below.size hI.1
   have HO1:=Lib.hid (Only.alloc (fun _=>False) W (.cells (fc x A' c') 25))
   have HN1:=Lib.hid (blk_new W (.cells (fc x A' c') 25))
   gi_wp2
   refine ⟨HO1.out,fun o' => ?_⟩
   have hlW1:l<(W.alloc (.cells (fc x A' c') 25)).heap.size:=by simp;omega
   have HO2:=Lib.hid ((HO1.out.trans (Only.putObj _ l (.loop o')) (K:=fun k=>k=l) (fun _ _ h=>h.elim) (fun _ _ h=>h)))
   have HN2:=Lib.hid ((World.putObj_heap_other (o:=.loop o') (show W.heap.size≠l by omega)).trans HN1.out)
   have hz2:W.heap.size<((W.alloc (.cells (fc x A' c') 25)).putObj l (.loop o')).heap.size:=by simp [World.putObj]
   generalize ((W.alloc (.cells (fc x A' c') 25)).putObj l (.loop o'))=W2 at *
   obtain ⟨r,hr⟩:=hLp
   have HV2:=Lib.hid (R_only (Kd.R_bound hv) HO2.out fun k hk e=>by obtain ⟨_,_,_,qq,_,cells,hq⟩:=hk;rw [e,hr] at hq;cases hq)
   have hbw2:Below w.heap.size w W2:=hI.1.trans (HO2.out.below hI.1.size fun k hk e=>by omega)
   have hmem:=hpx.subset (List.mem_append_right _ (List.mem_singleton.2 rfl))
   have hq:=HPB.out _ hmem
   simp only [List.length_nil] at hq
   have hbe:=HBE.out
   have hs0:(shownS []).size=0:=rfl
   have hds:x.data.size≤4194304:=by omega
   have hcnt:=HPC.out
   have hpl:=hpx.length_le
   rw [List.length_append,List.length_singleton] at hpl
   have z1:W2.cell? ⟨W.heap.size,1,none⟩=some (.int .u8 x.kind):=cell_of HN2.out rfl
   have z2:W2.cell? ⟨W.heap.size,2,none⟩=some (.string x.data):=cell_of HN2.out rfl
   obtain ⟨hIb,hFo,u,hu,huo,hR⟩:=hI
   have hR2:=R_onlyG (Kd.R_bound hR) HO2.out fun k hk e=>by obtain ⟨h1,_⟩:=hk;rw [e] at h1;exact h1.elim hFl hGl
   have hu2:Boxed W2 w1.heap.size 45 u:=Boxed_only hu HO2.out fun e=>hFl (e ▸ hFo)
   have z3:=hu2.cell
   have hvh:∀ k,v.ownBlock=some k→¬ F k:=fun k hk=>hHF k ⟨v,rfl,hk⟩
   have hvR:=Kd.R_of_own (h1:=fun _=>rfl) (ok:=fun k=>v.ownBlock=some k) (Kd.own_of_R HV2.out) fun k hk=>hk
   have hmap:(List.map keptE pre).length=pre.length:=List.length_map ..
   have hfl:(preF [] f).length≤4194304:=by omega
   obtain ⟨u1,w3,hrun,hR3,hB3,hg3,hat3⟩:=append_kept (w0:=w) 45 w.heap.size (fun k=>(F k∨G k)∨v.ownBlock=some k∨W2.heap.size≤k) (fun k=>v.ownBlock=some k) u (pre.map keptE) v q x.kind (x.data.size:Int)
    (Kd.R_lower hvR (by omega)) (fun k hk=>⟨.inr (.inl hk),fun e=>hvh k hk (huo k e.symm)⟩) (Kd.R_mono hR2 fun k hk=>.inl hk.1) hbw2 hbw2.size (fun k hk=>.inr (.inr hk)) (by omega)
   obtain ⟨Aq,cq,rfl,hcq,_⟩:=Kd.R_reads HV2.out
   have HRUN:=Lib.hid hrun
   have hu3:Boxed w3 w1.heap.size 45 u:=(hg3.block _ (Boxed.lt hu2) (Kd.R_ne hR2 hu2 (by decide))).trans hu2
   have c3:=hu3.cell
   have f3:=hu3.frozen
   have hs3:=hg3.size
   have HFIN:Hid (∀ a',roundR (IPl w w1.heap.size) (fun _ _ _ _=>False) HdF (pre++[(q,x)]) #[.slice Aq q.length cq,.agg (fc x A' c')] F G W W2 .normal a' (w3.setCell ⟨w1.heap.size,0,none⟩ u1)):=Lib.hid (by
    intro a'
    have hs5:(w3.setCell ⟨w1.heap.size,0,none⟩ u1).heap.size=w3.heap.size:=by simp [World.setCell]
    have hb2:=Kd.R_bound hR3
    refine ⟨fun k=>F k∨u1.ownBlock=some k,fun k=>G k∨(Value.slice Aq q.length cq).ownBlock=some k∨(W.heap.size≤k∧k<w3.heap.size),?_,fun k hk => ?_,fun k hk => ?_,?_,.inl hFo,u1,hu3.set u1,fun k hk=>.inr hk,?_⟩
    ·exact (Only.grown_of hg3).trans (Only.setCell w3 _ u1) (K:=F) (fun k _ h=>huo k h) (fun k _ h=>by rw [h];exact hFo)
    ·rcases hk with hk | hk
     ·exact .inl hk
     ·rw [hs5]
      rcases hat3 with h | ⟨b,h,hb⟩
      ·exact .inl (huo k (h ▸ hk))
      ·rw [hk] at h
       injection h with h
       have:=Kd.R_lt hR3 k hk
       exact .inr ⟨by omega,this⟩
    ·rw [hs5]
     rcases hk with hk | hk | hk
     ·exact .inl hk
     ·exact .inr (.inl ⟨_,rfl,hk⟩)
     ·exact .inr (.inr hk)
    ·exact hB3.setCell (p:=⟨w1.heap.size,0,none⟩) (by simp only;omega) u1
    ·rw [List.map_append]
     refine Kd.R_mono (Kd.R_set hb2 hu3 (by decide) 0 u1) fun k hk => ?_
     rcases hk.1 with (h | h) | h | h
     ·exact .inl (.inl h)
     ·exact .inr (.inl h)
     ·exact .inr (.inr (.inl h))
     ·exact .inr (.inr (.inr ⟨by omega,hk.2.2.1⟩)))
   obtain ⟨A3,c4,rfl,_,_⟩:=Kd.R_reads hR3
   clear hR3 hB3 hat3
   generalize (List.map keptE pre++[(q,(x.kind,(x.data.size:Int)))]).length=N3 at *
   clear hrun hmem hq hbe hs0 hcnt
   gi_wp2_with (gi_at_builtin;refine appendIn rfl (.tmp 14) (.tmp 22) 45 rfl _ _ _ rfl rfl HRUN.out ?_)
   exact HFIN.out _
end Go.Proofs.YtdnhjnlhmfajnaaGreatDoor.G
