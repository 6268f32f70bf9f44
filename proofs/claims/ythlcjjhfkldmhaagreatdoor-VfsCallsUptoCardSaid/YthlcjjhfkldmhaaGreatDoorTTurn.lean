import Derived.Test.YthlcjjhfkldmhaaGreatDoorTRWith
import Derived.Test.YthlcjjhfkldmhaaGreatDoorTRight
import Derived.Lib.AppendStr
import Derived.Lib.Builder
import Derived.Handy
import Derived.Laws.IdiomStrings
import Derived.Laws.Rows
import Derived.Lib.BufferRead
import Derived.Lib.IndexMore
import Derived.WideMake
import Derived.Carry
import Derived.Test.YthlcjjhfkldmhaaGreatDoorTCopy
import Derived.Lib.CountLaws
import Derived.Lib.CutLaws
import Derived.Lib.Split
import Derived.Laws.IdiomRangeMap
import Derived.Test.YthlcjjhfkldmhaaGreatDoorKit
import Derived.RangeFuncNested
import Derived.RangeFuncBound
import Derived.RangeFuncCalls
import Derived.RangeFuncLeaves
import Derived.Shelf.Abstract
import Derived.WalkKit
import Derived.OwnWalkIn
import Derived.TacticsInMore
import Derived.LoopNIn
import Derived.LoopIn
import Derived.RangeFuncBox
import Derived.Test.YthlcjjhfkldmhaaGreatDoorSq
import Derived.Laws.CopyRow
import Derived.Shelf.Spec.SlicesInsertGrow
import Derived.Deep.RegionLaw
set_option linter.unusedVariables false
set_option linter.unusedSimpArgs false
section
namespace Go.Proofs.YthlcjjhfkldmhaaGreatDoor.G
open Go.RowKit Go.Lib Go.Proofs.YthlcjjhfkldmhaaGreatDoorW.PrintWords Go.Proofs.YthlcjjhfkldmhaaGreatDoorW.PrintLast
set_option linter.unusedVariables false
mutual
def FT (B:Nat):File→World→Value→List Nat→Prop
 | ⟨_,_,_,l⟩=>fun w v bl=>(l=[]∧v=.slice none 0 0∧bl=[])∨∃ g inner bs,v.ownBlock=some g∧bl=g :: bs∧w.ownsRow B 25 4 v l.length inner∧LT B l w inner bs
def LT (B:Nat):List File→World→List Value→List Nat→Prop
 | []=>fun _ inner bs=>inner=[]∧bs=[]
 | x :: l=>fun w inner bs=>∃ v bx br rest,inner=.string x.name :: .int .u8 x.kind :: .string x.data :: v :: rest∧bs=bx++br∧FT B x w v bx∧LT B l w rest br
end
theorem FT_eq (B:Nat) (x:File) (w:World) (v:Value) (bl:List Nat):FT B x w v bl=((x.files=[]∧v=.slice none 0 0∧bl=[])∨∃ g inner bs,v.ownBlock=some g∧bl=g :: bs∧w.ownsRow B 25 4 v x.files.length inner∧LT B x.files w inner bs):=by
 cases x
 rw [FT]
mutual
theorem FT_move (B:Nat):∀ (x:File) (w w':World) (v:Value) (bl:List Nat),FT B x w v bl→(∀ k∈bl,w'.heap[k]? = w.heap[k]?)→FT B x w' v bl
 | ⟨_,_,_,l⟩,w,w',v,bl,h,hm=>by
  rw [FT] at h ⊢
  rcases h with h | ⟨g,inner,bs,hv,rfl,ho,hl⟩
  ·exact .inl h
  ·refine .inr ⟨g,inner,bs,hv,rfl,own_move ho (fun k hk => ?_),LT_move B l w w' inner bs hl fun k hk=>hm k (List.mem_cons_of_mem _ hk)⟩
   rw [hv] at hk
   injection hk with hk
   subst hk
   exact hm _ List.mem_cons_self
theorem LT_move (B:Nat):∀ (l:List File) (w w':World) (inner:List Value) (bs:List Nat),LT B l w inner bs→(∀ k∈bs,w'.heap[k]? = w.heap[k]?)→LT B l w' inner bs
 | [],w,w',inner,bs,h,hm=>by rw [LT] at h ⊢;exact h
 | x :: l,w,w',inner,bs,h,hm=>by
  rw [LT] at h ⊢
  obtain ⟨v,bx,br,rest,h1,rfl,h3,h4⟩:=h
  exact ⟨v,bx,br,rest,h1,rfl,FT_move B x w w' v bx h3 fun k hk=>hm k (List.mem_append_left _ hk),LT_move B l w w' rest br h4 fun k hk=>hm k (List.mem_append_right _ hk)⟩
end
mutual
theorem FT_lt (B:Nat):∀ (x:File) (w:World) (v:Value) (bl:List Nat),FT B x w v bl→∀ k∈bl,k<w.heap.size∧B≤k
 | ⟨_,_,_,l⟩,w,v,bl,h=>by
  rw [FT] at h
  rcases h with ⟨_,_,rfl⟩ | ⟨g,inner,bs,hv,rfl,ho,hl⟩
  ·intro k hk;cases hk
  ·intro k hk
   rcases List.mem_cons.1 hk with rfl | hk
   ·exact ⟨own_lt ho _ hv,own_base ho _ hv⟩
   ·exact LT_lt B l w inner bs hl k hk
theorem LT_lt (B:Nat):∀ (l:List File) (w:World) (inner:List Value) (bs:List Nat),LT B l w inner bs→∀ k∈bs,k<w.heap.size∧B≤k
 | [],w,inner,bs,h=>by
  rw [LT] at h
  obtain ⟨_,rfl⟩:=h
  intro k hk;cases hk
 | x :: l,w,inner,bs,h=>by
  rw [LT] at h
  obtain ⟨v,bx,br,rest,h1,rfl,h3,h4⟩:=h
  intro k hk
  rcases List.mem_append.1 hk with hk | hk
  ·exact FT_lt B x w v bx h3 k hk
  ·exact LT_lt B l w rest br h4 k hk
end
theorem LT_get (B:Nat):∀ (l:List File) (w:World) (inner:List Value) (bs:List Nat) (j:Nat) (x:File),LT B l w inner bs→l[j]? = some x →
  ∃ v bx b1 b2,inner[j * 4]? = some (.string x.name)∧inner[j * 4+1]? = some (.int .u8 x.kind)∧inner[j * 4+2]? = some (.string x.data)∧inner[j * 4+3]? = some v∧FT B x w v bx∧bs=b1++(bx++b2) ∧
   ∀ (w':World) (v':Value) (x':File) (bx':List Nat),(∀ k∈b1++b2,w'.heap[k]? = w.heap[k]?)→FT B x' w' v' bx'→x'.name=x.name→x'.kind=x.kind→x'.data=x.data→LT B (l.set j x') w' (inner.set (j * 4+3) v') (b1++(bx'++b2))
 | [],w,inner,bs,j,x,h,hj=>by simp at hj
 | y :: l,w,inner,bs,0,x,h,hj=>by
  obtain rfl:y=x:=by simpa using hj
  rw [LT] at h
  obtain ⟨v,bx,br,rest,rfl,rfl,h3,h4⟩:=h
  refine ⟨v,bx,[],br,rfl,rfl,rfl,rfl,h3,rfl,fun w' v' x' bx' hm hx' e1 e2 e3 => ?_⟩
  show LT B (x' :: l) w' (.string y.name :: .int .u8 y.kind :: .string y.data :: v' :: rest) (bx'++br)
  rw [LT]
  exact ⟨v',bx',br,rest,by rw [e1,e2,e3],rfl,hx',LT_move B l w w' rest br h4 fun k hk=>hm k (by simpa using hk)⟩
 | y :: l,w,inner,bs,j+1,x,h,hj=>by
  rw [LT] at h
  obtain ⟨v,bx,br,rest,rfl,rfl,h3,h4⟩:=h
  obtain ⟨v1,bx1,b1,b2,c0,c1,c2,c3,hf,rfl,hu⟩:=LT_get B l w rest br j x h4 (by simpa using hj)
  have hj4:(j+1) * 4=j * 4+4:=by omega
  refine ⟨v1,bx1,bx++b1,b2,by rw [hj4];exact c0,by rw [hj4];exact c1,by rw [hj4];exact c2,by rw [hj4];exact c3,hf,by simp,fun w' v' x' bx' hm hx' e1 e2 e3 => ?_⟩
  have h5:=hu w' v' x' bx' (fun k hk=>hm k (by simp at hk ⊢;rcases hk with hk | hk;exact .inr (.inl hk);exact .inr (.inr hk))) hx' e1 e2 e3
  rw [hj4]
  show LT B (y :: l.set j x') w' (.string y.name :: .int .u8 y.kind :: .string y.data :: v :: rest.set (j * 4+3) v') _
  rw [LT]
  refine ⟨v,bx,b1++(bx'++b2),_,rfl,by simp,FT_move B y w w' v bx h3 fun k hk=>hm k (by simp [hk]),h5⟩
mutual
theorem FT_reads (B:Nat):∀ (x:File) (w:World) (v:Value) (bl:List Nat),FT B x w v bl→∃ A c,v=.slice A x.files.length c∧x.files.length≤c∧FileK.C w A x.files.length x.files
 | ⟨n,k,d,l⟩,w,v,bl,h=>by
  rw [FT] at h
  rcases h with ⟨h1,rfl,_⟩ | ⟨g,inner,bs,hv,rfl,ho,hl⟩
  ·simp only at h1 ⊢
   subst h1
   exact ⟨none,0,rfl,Nat.le_refl _,Kd.C_nil FileK _⟩
  ·have hh:=LT_reads B l w inner bs hl
   rcases ho.2 with ⟨hv0,_⟩ | ⟨g',cap,cur,hvv,hb,hg,hnc,hcm,hcs,htake⟩
   ·rw [hv0] at hv
    simp [Value.ownBlock] at hv
   ·refine ⟨some ⟨g',0,none⟩,cap,hvv,hnc,rfl,by simp only [maxLen] at hcm;show l.length≤_;omega,fun _=>⟨_,rfl,fun j p hj => ?_⟩⟩
    obtain ⟨cs,hl4,hK,hc⟩:=hh j p hj
    refine ⟨cs,hl4,hK,fun i u hu => ?_⟩
    exact ho.cells (g:=g') (by rw [hvv];rfl) (j * 4+i) u (hc i u hu)
theorem LT_reads (B:Nat):∀ (l:List File) (w:World) (inner:List Value) (bs:List Nat),LT B l w inner bs→∀ j p,l[j]? = some p→∃ cs:List Value,cs.length=4∧FileK.K w p cs∧∀ i u,cs[i]? = some u→inner[j * 4+i]? = some u
 | [],w,inner,bs,h,j,p,hj=>by simp at hj
 | x :: l,w,inner,bs,h,0,p,hj=>by
  obtain rfl:x=p:=by simpa using hj
  rw [LT] at h
  obtain ⟨v,bx,br,rest,rfl,rfl,h3,h4⟩:=h
  obtain ⟨A,c,rfl,hc,hC⟩:=FT_reads B x w v bx h3
  refine ⟨_,rfl,file_mk w x hc hC,fun i u hu => ?_⟩
  rw [Nat.zero_mul,Nat.zero_add]
  have hi:i<4:=(List.getElem?_eq_some_iff.1 hu).1
  rw [← hu]
  match i,hi with
  | 0,_=>rfl
  | 1,_=>rfl
  | 2,_=>rfl
  | 3,_=>rfl
 | x :: l,w,inner,bs,h,j+1,p,hj=>by
  rw [LT] at h
  obtain ⟨v,bx,br,rest,rfl,rfl,h3,h4⟩:=h
  obtain ⟨cs,h1,h2,h5⟩:=LT_reads B l w rest br h4 j p (by simpa using hj)
  refine ⟨cs,h1,h2,fun i u hu => ?_⟩
  rw [show (j+1) * 4+i=(j * 4+i)+4 by omega]
  exact h5 i u hu
end
theorem own_set {B g n j:Nat} {v u:Value} {w w':World} {inner:List Value} (h:w.ownsRow B 25 4 v n inner) (hv:v.ownBlock=some g) (hj:j<inner.length) (hg:w'.heap[g]? = (w.setCell ⟨g,j,none⟩ u).heap[g]?):w'.ownsRow B 25 4 v n (inner.set j u):=by
 rcases h.2 with ⟨hv0,_⟩ | ⟨g',cap,cur,hvv,hb,hg2,hnc,hcm,hcs,htake⟩
 ·rw [hv0] at hv
  simp [Value.ownBlock] at hv
 ·subst hvv
  injection hv with hv
  subst hv
  refine own_move (h.stored j u).1 fun k hk => ?_
  injection hk with hk
  subst hk
  exact hg
def putP:File→List ByteArray→File→File
 | _,[],y=>y
 | f,n :: p,y=>match f.files[lowB f.files n]? with
  | some x=>{f with files:=f.files.set (lowB f.files n) (putP x p y)}
  | none=>f
def Turned (B:Nat) (x:File) (p:List ByteArray) (w:World) (v:Value) (bl:List Nat) (g o:Nat) (y:File) (by_:List Nat):Prop :=
 ∀ (w':World) (v'':Value) (y':File) (by':List Nat),(∀ k∈bl,k≠g→k ∉ by_→w'.heap[k]? = w.heap[k]?)→w'.heap[g]? = (w.setCell ⟨g,o+3,none⟩ v'').heap[g]? → FT B y' w' v'' by' →
  y'.name=y.name→y'.kind=y.kind→y'.data=y.data→by'.Nodup→(∀ k∈by',k∈by_∨k ∉ bl)→∃ bl',FT B (putP x p y') w' v bl'∧bl'.Nodup∧∀ k∈bl',k∈bl∨k∈by'
theorem nodup_swap {g:Nat} {b1 bx b2 bz:List Nat} (h:(g :: (b1++(bx++b2))).Nodup) (hy:bz.Nodup) (hs:∀ k∈bz,k∈bx∨k ∉ g :: (b1++(bx++b2))):(g :: (b1++(bz++b2))).Nodup:=by
 rw [List.nodup_cons] at h ⊢
 obtain ⟨hg,h⟩:=h
 rw [List.nodup_append] at h ⊢
 obtain ⟨h1,h2,h3⟩:=h
 rw [List.nodup_append] at h2 ⊢
 obtain ⟨h4,h5,h6⟩:=h2
 have hz:∀ k∈bz,k≠g∧k ∉ b1∧k ∉ b2:=by
  intro k hk
  rcases hs k hk with h | h
  ·exact ⟨fun e=>hg (by rw [← e];simp [h]),fun e=>h3 k e k (by simp [h]) rfl,fun e=>h6 k h k e rfl⟩
  ·simp only [List.mem_cons,List.mem_append,not_or] at h
   exact ⟨h.1,h.2.1,h.2.2.2⟩
 refine ⟨fun h => ?_,h1,⟨hy,h5,fun a ha b hb e=>(hz a ha).2.2 (e ▸ hb)⟩,fun a ha b hb e => ?_⟩
 ·simp only [List.mem_append] at h hg
  rcases h with h | h | h
  ·exact hg (.inl h)
  ·exact (hz g h).1 rfl
  ·exact hg (.inr (.inr h))
 ·subst e
  rcases List.mem_append.1 hb with hb | hb
  ·exact (hz a hb).2.1 ha
  ·exact h3 a ha a (List.mem_append_right _ hb) rfl
theorem putP_keep:∀ (f:File) (n:ByteArray) (p:List ByteArray) (y:File),(putP f (n :: p) y).name=f.name∧(putP f (n :: p) y).kind=f.kind∧(putP f (n :: p) y).data=f.data:=by
 intro f n p y
 rw [putP]
 split <;> exact ⟨rfl,rfl,rfl⟩
theorem own_addr {B g n:Nat} {b:Addr} {c m:Nat} {w:World} {inner:List Value} (h:w.ownsRow B 25 4 (.slice (some b) m c) n inner) (hv:(Value.slice (some b) m c).ownBlock=some g):b=⟨g,0,none⟩:=by
 rcases h.2 with ⟨hv0,_⟩ | ⟨g',cap,cur,hvv,_⟩
 ·cases hv0
 ·injection hvv with h1 _ _
  injection h1 with h1
  subst h1
  injection hv with hv
  subst hv
  rfl
theorem add_at4 (g k:Nat):(⟨g,0,none⟩:Addr).add k=⟨g,k,none⟩:=by
 simp [Addr.add]
 omega
theorem focus (B:Nat) (w:World):∀ (p:List ByteArray) (n:ByteArray) (x:File) (ad ad':Addr) (y:File) (v:Value) (bl:List Nat),w.cell? ⟨ad.block,ad.off+3,none⟩=some v→FT B x w v bl→bl.Nodup→Reach w ad x (n :: p) ad' y →
  ∃ (g o:Nat) (v':Value) (by_:List Nat),ad'=⟨g,o,none⟩∧g∈bl∧w.cell? ⟨g,o+3,none⟩=some v'∧FT B y w v' by_∧(∀ k∈by_,k∈bl∧k≠g)∧by_.Nodup∧Turned B x (n :: p) w v bl g o y by_:=by
 intro p
 induction p with
 | nil =>
  intro n x ad ad' y v bl hc hF hN ⟨b,c,x1,hb,hx,had,hy⟩
  subst hy
  rw [hb] at hc
  injection hc with hc
  subst hc
  rw [FT_eq] at hF
  rcases hF with ⟨h0,_,_⟩ | ⟨g,inner,bs,hv,rfl,ho,hL⟩
  ·rw [h0] at hx;simp at hx
  ·obtain rfl:=own_addr ho hv
   obtain ⟨v1,bx,b1,b2,c0,c1,c2,c3,hf,rfl,hu⟩:=LT_get B x.files w inner bs _ _ hL hx
   generalize hi:lowB x.files n=i at *
   have hcell:=ho.cells (g:=g) rfl (i * 4+3) v1 c3
   rw [add_at4] at hcell had
   have hgn:=(List.nodup_cons.1 hN).1
   have hlt:i * 4+3<inner.length:=(List.getElem?_eq_some_iff.1 c3).1
   refine ⟨g,i * 4,v1,bx,had,List.mem_cons_self,hcell,hf,fun k hk=>⟨by simp [hk],fun e=>hgn (by rw [← e];simp [hk])⟩,(List.nodup_append.1 (List.nodup_append.1 (List.nodup_cons.1 hN).2).2.1).1,?_⟩
   intro w' v'' y' bz hm hg hF' e1 e2 e3 hN' hsub
   refine ⟨g :: (b1++(bz++b2)),?_,nodup_swap hN hN' hsub,fun k hk => ?_⟩
   ·rw [putP,hi,hx]
    simp only [putP]
    rw [FT_eq]
    refine .inr ⟨g,inner.set (i * 4+3) v'',b1++(bz++b2),hv,rfl,?_,hu w' v'' y' bz (fun k hk => ?_) hF' e1 e2 e3⟩
    ·simp only [List.length_set]
     exact own_set ho hv hlt hg
    ·refine hm k ?_ (fun e=>hgn ?_) (fun hkx => ?_)
     ·simp only [List.mem_cons,List.mem_append] at hk ⊢
      rcases hk with hk | hk
      ·exact .inr (.inl hk)
      ·exact .inr (.inr (.inr hk))
     ·rw [← e]
      simp only [List.mem_append] at hk ⊢
      rcases hk with hk | hk
      ·exact .inl hk
      ·exact .inr (.inr hk)
     ·have h1:=List.nodup_append.1 (List.nodup_cons.1 hN).2
      rcases List.mem_append.1 hk with hk | hk
      ·exact h1.2.2 k hk k (by simp [hkx]) rfl
      ·exact (List.nodup_append.1 h1.2.1).2.2 k hkx k hk rfl
   ·simp only [List.mem_cons,List.mem_append] at hk ⊢
    rcases hk with hk | hk | hk | hk
    ·exact .inl (.inl hk)
    ·exact .inl (.inr (.inl hk))
    ·exact .inr hk
    ·exact .inl (.inr (.inr (.inr hk)))
 | cons n2 p ih =>
  intro n x ad ad' y v bl hc hF hN ⟨b,c,x1,hb,hx,hre⟩
  rw [hb] at hc
  injection hc with hc
  subst hc
  rw [FT_eq] at hF
  rcases hF with ⟨h0,_,_⟩ | ⟨g,inner,bs,hv,rfl,ho,hL⟩
  ·rw [h0] at hx;simp at hx
  ·obtain rfl:=own_addr ho hv
   obtain ⟨v1,bx,b1,b2,c0,c1,c2,c3,hf,rfl,hu⟩:=LT_get B x.files w inner bs _ _ hL hx
   generalize hi:lowB x.files n=i at *
   have hcell:=ho.cells (g:=g) rfl (i * 4+3) v1 c3
   rw [add_at4] at hcell hre
   have hgn:=(List.nodup_cons.1 hN).1
   have h1:=List.nodup_append.1 (List.nodup_cons.1 hN).2
   have h2:=List.nodup_append.1 h1.2.1
   obtain ⟨g2,o2,v2,by2,had,hg2,hc2,hf2,hb2,hn2,hT⟩:=ih n2 x1 ⟨g,i * 4,none⟩ ad' y v1 bx hcell hf h2.1 hre
   have hg2g:g2≠g:=fun e=>hgn (by rw [← e];simp [hg2])
   refine ⟨g2,o2,v2,by2,had,by simp [hg2],hc2,hf2,fun k hk=>⟨by simp [(hb2 k hk).1],(hb2 k hk).2⟩,hn2,?_⟩
   intro w' v'' y' bz hm hg hF' e1 e2 e3 hN' hsub
   obtain ⟨bx',hx',hxn,hxs⟩:=hT w' v'' y' bz (fun k hk=>hm k (by simp [hk])) hg hF' e1 e2 e3 hN' (fun k hk=>(hsub k hk).imp id fun h hkx=>h (by simp [hkx]))
   have hxsub:∀ k∈bx',k∈bx∨k ∉ g :: (b1++(bx++b2)):=fun k hk=>by
    rcases hxs k hk with h | h
    ·exact .inl h
    ·rcases hsub k h with h | h
     ·exact .inl (hb2 k h).1
     ·exact .inr h
   have hgx:w'.heap[g]? = w.heap[g]? := hm g List.mem_cons_self (Ne.symm hg2g) (fun e=>hgn (by simp [(hb2 g e).1]))
   obtain ⟨k1,k2,k3⟩:=putP_keep x1 n2 p y'
   have hl:=hu w' v1 (putP x1 (n2 :: p) y') bx' (fun k hk=>by
    have hkbx:k ∉ bx:=fun hkx=>by
     rcases List.mem_append.1 hk with hk | hk
     ·exact h1.2.2 k hk k (by simp [hkx]) rfl
     ·exact h2.2.2 k hkx k hk rfl
    refine hm k ?_ (fun e=>hkbx (e ▸ hg2)) (fun e=>hkbx (hb2 k e).1)
    simp only [List.mem_cons,List.mem_append] at hk ⊢
    rcases hk with hk | hk
    ·exact .inr (.inl hk)
    ·exact .inr (.inr (.inr hk))) hx' k1 k2 k3
   have hset:inner.set (i * 4+3) v1=inner:=by
    apply List.ext_getElem?
    intro j
    rw [List.getElem?_set]
    split
    ·rename_i e
     subst e
     rw [if_pos (List.getElem?_eq_some_iff.1 c3).1,c3]
    ·rfl
   rw [hset] at hl
   refine ⟨g :: (b1++(bx'++b2)),?_,nodup_swap hN hxn hxsub,fun k hk => ?_⟩
   ·rw [putP,hi,hx]
    simp only
    rw [FT_eq]
    refine .inr ⟨g,inner,b1++(bx'++b2),hv,rfl,?_,hl⟩
    simp only [List.length_set]
    refine own_move ho fun k hk => ?_
    injection hk with hk
    subst hk
    exact hgx
   ·simp only [List.mem_cons,List.mem_append] at hk ⊢
    rcases hk with hk | hk | hk | hk
    ·exact .inl (.inl hk)
    ·exact .inl (.inr (.inl hk))
    ·rcases hxs k hk with h | h
     ·exact .inl (.inr (.inr (.inl h)))
     ·exact .inr h
    ·exact .inl (.inr (.inr (.inr hk)))
end Go.Proofs.YthlcjjhfkldmhaaGreatDoor.G
end
section
section
namespace Go.Proofs.YthlcjjhfkldmhaaGreatDoor.G
open Go.RowKit Go.Lib Go.Proofs.YthlcjjhfkldmhaaGreatDoorW.PrintWords Go.Proofs.YthlcjjhfkldmhaaGreatDoorW.PrintLast
set_option linter.unusedVariables false
def shortL:List UInt8:=[0,0,0,0,0,0,0,97,98,116,110,118,102,114]
def o1 (x:UInt8):UInt8:=(48:UInt8)+(x >>> 6)
def o2 (x:UInt8):UInt8:=(48:UInt8)+((x >>> 3) &&& 7)
def o3 (x:UInt8):UInt8:=(48:UInt8)+(x &&& 7)
def toldB (c:UInt8):List UInt8:=if c=92 then [92,92] else if shortL.getD c.toNat 0≠0 then [92,shortL.getD c.toNat 0] else if c<32∨127≤c then [92,o1 c,o2 c,o3 c] else [c]
end Go.Proofs.YthlcjjhfkldmhaaGreatDoor.G
end
section
section
namespace Go.Proofs.YthlcjjhfkldmhaaGreatDoor.G
open Go.RowKit Go.Lib Go.Proofs.YthlcjjhfkldmhaaGreatDoorW.PrintWords Go.Proofs.YthlcjjhfkldmhaaGreatDoorW.PrintLast
set_option linter.unusedVariables false
def fourB (b:Nat):Bool:=(toldB (UInt8.ofNat b)).length == 4
def goesB (n k:Nat):Bool:=(List.range 256).any fun b=>fourB b && b / 8 ^ (2 - k) == n
def octR:Nat→Nat→List UInt8→Option Nat
 | 0,n,_=>some n
 | _+1,_,[]=>none
 | r+1,n,d :: l=>if 48≤d.toNat∧d.toNat≤55∧goesB (8 * n+(d.toNat - 48)) (2 - r)=true then octR r (8 * n+(d.toNat - 48)) l else none
def escL (d:UInt8):Option UInt8:=if d=92 then some 92 else ((List.range 14).find? fun x=>shortL.getD x 0 != 0 && shortL.getD x 0 == d).map UInt8.ofNat
def oneL:List UInt8→Option (UInt8×Nat)
 | []=>none
 | c :: r=>if c=92 then (match r with
  | []=>none
  | d :: _=>if d=34 then some (34,2) else match escL d with
   | some b=>some (b,2)
   | none=>(octR 3 0 r).map fun n=>(UInt8.ofNat n,4)) else if 32≤c.toNat∧c.toNat<127∧c.toNat≠34 then some (c,1) else none
end Go.Proofs.YthlcjjhfkldmhaaGreatDoor.G
end
section
namespace Go.Proofs.YthlcjjhfkldmhaaGreatDoor.G
open Go.RowKit Go.Lib Go.Proofs.YthlcjjhfkldmhaaGreatDoorW.PrintWords Go.Proofs.YthlcjjhfkldmhaaGreatDoorW.PrintLast
set_option linter.unusedVariables false
def unqW (l:List UInt8) (i:Nat) (out:List UInt8):Option (List UInt8×Nat):=match l with
 | []=>none
 | c :: r=>if c=34 then some (out,i+1) else match oneL (c :: r) with
  | none=>none
  | some (b,m)=>unqW (r.drop (m - 1)) (i+m) (out++[b])
termination_by l.length
decreasing_by simp only [List.length_drop,List.length_cons];omega
def unq (s:ByteArray):Option (List UInt8×Nat):=match s.data.toList with
 | []=>none
 | c :: r=>if c=34 then unqW r 1 [] else none
end Go.Proofs.YthlcjjhfkldmhaaGreatDoor.G
end
end
section
section
namespace Go.Proofs.YthlcjjhfkldmhaaGreatDoor.G
open Go.RowKit Go.Lib Go.Proofs.YthlcjjhfkldmhaaGreatDoorW.PrintWords Go.Proofs.YthlcjjhfkldmhaaGreatDoorW.PrintLast
set_option linter.unusedVariables false
def cutB (c:UInt8):List UInt8→Option (List UInt8×List UInt8)
 | []=>none
 | b :: r=>if b=c then some ([],r) else (cutB c r).map fun x=>(b :: x.1,x.2)
end Go.Proofs.YthlcjjhfkldmhaaGreatDoor.G
end
section
section
namespace Go.Proofs.YthlcjjhfkldmhaaGreatDoor.G
open Go.RowKit Go.Shelf Go.Lib Go.Proofs.YthlcjjhfkldmhaaGreatDoorW.PrintWords Go.Proofs.YthlcjjhfkldmhaaGreatDoorW.PrintLast
set_option linter.unusedVariables false
def wDir:ByteArray:=⟨#[100,105,114]⟩
def wText:ByteArray:=⟨#[116,101,120,116]⟩
def wLink:ByteArray:=⟨#[108,105,110,107]⟩
end Go.Proofs.YthlcjjhfkldmhaaGreatDoor.G
end
section
namespace Go.Proofs.YthlcjjhfkldmhaaGreatDoor.G
open Go.RowKit Go.Lib Go.Proofs.YthlcjjhfkldmhaaGreatDoorW.PrintWords Go.Proofs.YthlcjjhfkldmhaaGreatDoorW.PrintLast
set_option linter.unusedVariables false
def kindOf (x:ByteArray):Int:=if x.toList == wDir.toList then 1 else if x.toList == wText.toList then 2 else if x.toList == wLink.toList then 3 else 0
structure RowR where
 kind:Int
 data:ByteArray
 path:ByteArray
 rule:Int
def badR (k:Int):RowR:=⟨0,⟨#[]⟩,⟨#[]⟩,k⟩
def mkS (l:List UInt8):ByteArray:=⟨l.toArray⟩
def dataR (k:Int) (p:List UInt8):List UInt8→RowR
 | []=>badR 2
 | c :: r=>if c=32 then (match unq (mkS r) with
  | some x=>if r.drop x.2=[] then ⟨k,mkS x.1,mkS p,0⟩ else badR 2
  | none=>badR 2) else badR 2
def restR (k:Int) (r:List UInt8):RowR:=match unq (mkS r) with
 | some x=>if k=1 then (if r.drop x.2=[] then ⟨1,⟨#[]⟩,mkS x.1,0⟩ else badR 2) else dataR k x.1 (r.drop x.2)
 | none=>badR 2
def readR (s:ByteArray):RowR:=match cutB 32 s.data.toList with
 | none=>badR 1
 | some x=>if kindOf (mkS x.1)=0 then badR 1 else restR (kindOf (mkS x.1)) x.2
end Go.Proofs.YthlcjjhfkldmhaaGreatDoor.G
end
end
end
section
section
namespace Go.Proofs.YthlcjjhfkldmhaaGreatDoor.G
open Go.RowKit
set_option linter.unusedVariables false
structure Only (F:Nat→Prop) (W W':World):Prop where
 os:W'.os=W.os
 tape:W'.tape=W.tape
 output:W'.output=W.output
 size:W.heap.size≤W'.heap.size
 block:∀ k,k<W.heap.size→¬ F k→W'.heap[k]? = W.heap[k]?
theorem Only.refl (F:Nat→Prop) (W:World):Only F W W:=⟨rfl,rfl,rfl,Nat.le_refl _,fun _ _ _=>rfl⟩
theorem Only.trans {F H K:Nat→Prop} {X Y Z:World} (h:Only F X Y) (g:Only H Y Z) (hF:∀ k,k<X.heap.size→F k→K k) (hH:∀ k,k<X.heap.size→H k→K k):Only K X Z :=
 ⟨g.os.trans h.os,g.tape.trans h.tape,g.output.trans h.output,Nat.le_trans h.size g.size,fun k hk hn =>
  (g.block k (Nat.lt_of_lt_of_le hk h.size) (fun e=>hn (hH k hk e))).trans (h.block k hk (fun e=>hn (hF k hk e)))⟩
theorem Only.mono {F H:Nat→Prop} {X Y:World} (h:Only F X Y) (g:∀ k,k<X.heap.size→F k→H k):Only H X Y:=⟨h.os,h.tape,h.output,h.size,fun k hk hn=>h.block k hk (fun e=>hn (g k hk e))⟩
theorem Only.putObj (W:World) (l:Nat) (o:Obj):Only (· = l) W (W.putObj l o):=⟨rfl,rfl,rfl,by simp [World.putObj],fun k hk hn=>World.putObj_heap_other hn⟩
theorem Only.alloc (F:Nat→Prop) (W:World) (o:Obj):Only F W (W.alloc o):=⟨rfl,rfl,rfl,by simp,fun k hk _=>Below.heap_alloc _ _ _ hk⟩
theorem Only.setCell (W:World) (p:Addr) (v:Value):Only (· = p.block) W (W.setCell p v):=⟨rfl,rfl,rfl,by simp [World.setCell],fun k hk hn=>Below.heap_setCell _ _ _ _ (fun e=>hn e)⟩
theorem Only.below {F:Nat→Prop} {X Y:World} (h:Only F X Y) {B:Nat} (hB:B≤X.heap.size) (hF:∀ k,k<B→¬ F k):Below B X Y:=⟨h.os,h.tape,h.output,h.size,fun k hk=>h.block k (Nat.lt_of_lt_of_le hk hB) (hF k hk)⟩
end Go.Proofs.YthlcjjhfkldmhaaGreatDoor.G
end
section
namespace Go.Proofs.YthlcjjhfkldmhaaGreatDoor.G
open Go.RowKit Go.Shelf Go.Lib Go.Proofs.YthlcjjhfkldmhaaGreatDoorW.PrintWords Go.Proofs.YthlcjjhfkldmhaaGreatDoorW.PrintLast
attribute [local go_sem] Oper.semAt_some
set_option linter.unusedVariables false
set_option linter.unusedSimpArgs false
mutual
def preF (p:List ByteArray):File→List (List ByteArray×File)
 | ⟨_,_,_,l⟩=>preL p l
def preL (p:List ByteArray):List File→List (List ByteArray×File)
 | []=>[]
 | x :: l=>(p++[x.name],x) :: (preF (p++[x.name]) x++preL p l)
end
end Go.Proofs.YthlcjjhfkldmhaaGreatDoor.G
end
section
section
namespace Go.Proofs.YthlcjjhfkldmhaaGreatDoor.G
open Go.RowKit Go.Lib Go.Proofs.YthlcjjhfkldmhaaGreatDoorW.PrintWords Go.Proofs.YthlcjjhfkldmhaaGreatDoorW.PrintLast
set_option linter.unusedVariables false
def shownS (l:List ByteArray):ByteArray:=l.foldl (fun s n=>s++(⟨#[47]⟩++n)) ⟨#[]⟩
end Go.Proofs.YthlcjjhfkldmhaaGreatDoor.G
end
section
namespace Go.Proofs.YthlcjjhfkldmhaaGreatDoor.G
open Go.RowKit Go.Lib Go.Proofs.YthlcjjhfkldmhaaGreatDoorW.PrintWords Go.Proofs.YthlcjjhfkldmhaaGreatDoorW.PrintLast
set_option linter.unusedVariables false
theorem shownS_snoc (p:List ByteArray) (n:ByteArray):(shownS (p++[n])).size=(shownS p).size+(1+n.size):=by
 simp only [shownS,List.foldl_append,List.foldl_cons,List.foldl_nil,ByteArray.size_append]
 rfl
theorem bulkL_cons (x:File) (l:List File):bulkL (x :: l)=x.bulk+bulkL l:=by simp [bulkL]
mutual
theorem preF_bound:∀ (f:File) (p:List ByteArray) (y:List ByteArray×File),y∈preF p f→(shownS y.1).size+y.2.data.size+bulkL y.2.files≤(shownS p).size+bulkL f.files∧y.1.length+bulkL y.2.files≤p.length+bulkL f.files
 | ⟨n,k,d,l⟩,p,y,h=>by
  rw [preF] at h
  exact preL_bound l p y h
theorem preL_bound:∀ (l:List File) (p:List ByteArray) (y:List ByteArray×File),y∈preL p l→(shownS y.1).size+y.2.data.size+bulkL y.2.files≤(shownS p).size+bulkL l∧y.1.length+bulkL y.2.files≤p.length+bulkL l
 | [],p,y,h=>by simp [preL] at h
 | x :: l,p,y,h=>by
  rw [preL] at h
  rw [bulkL_cons]
  have hb:=bulk_eq x
  rcases List.mem_cons.1 h with rfl | h
  ·have hs:=shownS_snoc p x.name
   simp only [List.length_append,List.length_cons,List.length_nil]
   omega
  ·rcases List.mem_append.1 h with h | h
   ·have h1:=preF_bound x _ y h
    have hs:=shownS_snoc p x.name
    simp only [List.length_append,List.length_cons,List.length_nil] at h1
    omega
   ·have h1:=preL_bound l p y h
    omega
end
mutual
theorem preF_count:∀ (f:File) (p:List ByteArray),4 * (preF p f).length≤bulkL f.files
 | ⟨n,k,d,l⟩,p=>by
  rw [preF]
  exact preL_count l p
theorem preL_count:∀ (l:List File) (p:List ByteArray),4 * (preL p l).length≤bulkL l
 | [],p=>by simp [preL]
 | x :: l,p=>by
  rw [preL,bulkL_cons]
  have hb:=bulk_eq x
  have h1:=preF_count x (p++[x.name])
  have h2:=preL_count l p
  simp only [List.length_cons,List.length_append]
  omega
end
end Go.Proofs.YthlcjjhfkldmhaaGreatDoor.G
end
section
namespace Go.Proofs.YthlcjjhfkldmhaaGreatDoor.G
open Go.RowKit Go.Lib Go.Proofs.YthlcjjhfkldmhaaGreatDoorW.PrintWords Go.Proofs.YthlcjjhfkldmhaaGreatDoorW.PrintLast
set_option linter.unusedVariables false
theorem goP_step {f:File} {n:ByteArray} {q:List ByteArray} {d:File} {k:Int} (h:goP f (n :: q)=(k,some d)):∃ x,f.files[lowB f.files n]? = some x∧x.name=n∧goP x q=(k,some d):=by
 rw [goP] at h
 split at h
 ·split at h
  ·rename_i x hx
   split at h
   ·rename_i he
    exact ⟨x,hx,toList_inj.1 (eq_of_beq he),h⟩
   ·cases h
  ·cases h
 ·cases h
theorem putP_name:∀ (q:List ByteArray) (f y d:File) (k:Int),goP f q=(k,some d)→y.name=d.name→(putP f q y).name=f.name
 | [],f,y,d,k,h,hy=>by
  rw [goP] at h
  injection h with _ h
  injection h with h
  subst h
  rw [putP]
  exact hy
 | n :: q,f,y,d,k,h,hy=>(putP_keep f n q y).1
theorem bulkL_set {l:List File} {i:Nat} {x x':File} (hx:l[i]? = some x):bulkL (l.set i x')+x.bulk=bulkL l+x'.bulk:=by
 induction l generalizing i with
 | nil=>simp at hx
 | cons z l ih =>
  cases i with
  | zero =>
   obtain rfl:z=x:=by simpa using hx
   simp only [List.set_cons_zero,bulkL_cons]
   omega
  | succ i =>
   have:=ih (i:=i) (by simpa using hx)
   simp only [List.set_cons_succ,bulkL_cons]
   omega
theorem bulk_put:∀ (q:List ByteArray) (f y d:File) (k:Int),goP f q=(k,some d)→(putP f q y).bulk+d.bulk=f.bulk+y.bulk
 | [],f,y,d,k,h=>by
  rw [goP] at h
  injection h with _ h
  injection h with h
  subst h
  rw [putP]
  omega
 | n :: q,f,y,d,k,h=>by
  obtain ⟨x,hx,hxn,hg⟩:=goP_step h
  have ih:=bulk_put q x y d k hg
  have h1:=bulkL_set (x':=putP x q y) hx
  have e1:=bulk_eq f
  have e2:=bulk_eq (putP f (n :: q) y)
  have e3:(putP f (n :: q) y).files=f.files.set (lowB f.files n) (putP x q y):=by rw [putP,hx]
  obtain ⟨k1,k2,k3⟩:=putP_keep f n q y
  rw [e3,k1,k3] at e2
  omega
end Go.Proofs.YthlcjjhfkldmhaaGreatDoor.G
end
end
section
section
namespace Go.Proofs.YthlcjjhfkldmhaaGreatDoor.G
open Go.RowKit Go.Lib Go.Proofs.YthlcjjhfkldmhaaGreatDoorW.PrintWords Go.Proofs.YthlcjjhfkldmhaaGreatDoorW.PrintLast
set_option linter.unusedVariables false
mutual
theorem FT_cells (B:Nat):∀ (x:File) (w:World) (v:Value) (bl:List Nat),FT B x w v bl→∀ k∈bl,∃ cs,w.heap[k]? = some (.cells cs 25 (0,0))
 | ⟨_,_,_,l⟩,w,v,bl,h=>by
  rw [FT] at h
  rcases h with ⟨_,_,rfl⟩ | ⟨g,inner,bs,hv,rfl,ho,hl⟩
  ·intro k hk;cases hk
  ·intro k hk
   rcases List.mem_cons.1 hk with rfl | hk
   ·rcases ho.2 with ⟨hv0,_⟩ | ⟨g',cap,cur,hvv,hb,hg,hnc,hcm,hcs,htake⟩
    ·rw [hv0] at hv
     simp [Value.ownBlock] at hv
    ·rw [hvv] at hv
     injection hv with hv
     subst hv
     exact ⟨_,hg⟩
   ·exact LT_cells B l w inner bs hl k hk
theorem LT_cells (B:Nat):∀ (l:List File) (w:World) (inner:List Value) (bs:List Nat),LT B l w inner bs→∀ k∈bs,∃ cs,w.heap[k]? = some (.cells cs 25 (0,0))
 | [],w,inner,bs,h=>by
  rw [LT] at h
  obtain ⟨_,rfl⟩:=h
  intro k hk;cases hk
 | x :: l,w,inner,bs,h=>by
  rw [LT] at h
  obtain ⟨v,bx,br,rest,h1,rfl,h3,h4⟩:=h
  intro k hk
  rcases List.mem_append.1 hk with hk | hk
  ·exact FT_cells B x w v bx h3 k hk
  ·exact LT_cells B l w rest br h4 k hk
end
theorem FT_own {B:Nat} {d:File} {W:World} {v:Value} {bl:List Nat} (h:FT B d W v bl) (hN:bl.Nodup) :
  ∃ inner bs,W.ownsRow B 25 4 v d.files.length inner∧LT B d.files W inner bs∧bs.Nodup∧(∀ k∈bs,k∈bl∧v.ownBlock≠some k)∧(∀ k,v.ownBlock=some k→k∈bl):=by
 rw [FT_eq] at h
 rcases h with ⟨h0,rfl,rfl⟩ | ⟨g,inner,bs,hv,rfl,ho,hL⟩
 ·exact ⟨[],[],(by rw [h0];exact own_nil _ _ _ _),(by rw [h0,LT];exact ⟨rfl,rfl⟩),List.nodup_nil,(fun k hk=>absurd hk List.not_mem_nil),(fun k hk=>by cases hk)⟩
 ·have hn:=List.nodup_cons.1 hN
  refine ⟨inner,bs,ho,hL,hn.2,fun k hk=>⟨List.mem_cons_of_mem _ hk,fun e => ?_⟩,fun k hk => ?_⟩
  ·rw [hv] at e
   injection e with e
   exact hn.1 (e ▸ hk)
  ·rw [hv] at hk
   injection hk with hk
   rw [hk]
   exact List.mem_cons_self
end Go.Proofs.YthlcjjhfkldmhaaGreatDoor.G
end
section
namespace Go.Proofs.YthlcjjhfkldmhaaGreatDoor.G
open Go.RowKit Go.Lib Go.Proofs.YthlcjjhfkldmhaaGreatDoorW.PrintWords Go.Proofs.YthlcjjhfkldmhaaGreatDoorW.PrintLast
set_option linter.unusedVariables false
set_option linter.unusedSimpArgs false
section
variable {t:File} {last p:List ByteArray} {tx:ByteArray} {rr:RowR} (hr:readR tx=rr) (h0:rr.rule=0)
include hr h0
end
theorem Only.grown_of {w w':World} {row:Option Nat} (h:w.grownBy w' row):Only (fun k=>row=some k) w w':=⟨h.os,h.tape,h.output,h.size,fun k hk hn=>h.block k hk (fun e=>hn e.symm)⟩
theorem Only.drew {F:Nat→Prop} {X Y:World} (h:Only F X Y):Only F X Y.drew:=⟨h.os,h.tape,h.output,h.size,h.block⟩
theorem bulk_go:∀ (q:List ByteArray) (f d:File) (k:Int),goP f q=(k,some d)→d.bulk≤f.bulk
 | [],f,d,k,h=>by
  rw [goP] at h
  injection h with _ h
  injection h with h
  subst h
  exact Nat.le_refl _
 | n :: q,f,d,k,h=>by
  obtain ⟨x,hx,_,hg⟩:=goP_step h
  have h1:=bulk_go q x d k hg
  have h2:=bulk_child (List.mem_of_getElem? hx)
  omega
theorem setCell_same {W W':World} (p:Addr) (v:Value) (h:W.heap[p.block]? = W'.heap[p.block]?):(W.setCell p v).heap[p.block]? = (W'.setCell p v).heap[p.block]? := by
 simp [World.setCell,Array.getElem?_modify,h]
end Go.Proofs.YthlcjjhfkldmhaaGreatDoor.G
end
end
end
end
section
namespace Go.Proofs.YthlcjjhfkldmhaaGreatDoor.G
open Go.RowKit Go.Lib Go.Proofs.YthlcjjhfkldmhaaGreatDoorW.PrintWords Go.Proofs.YthlcjjhfkldmhaaGreatDoorW.PrintLast
set_option linter.unusedVariables false
set_option linter.unusedSimpArgs false
section
theorem LT_cut (B:Nat):∀ (l:List File) (w:World) (inner:List Value) (bs:List Nat) (i:Nat),LT B l w inner bs→∃ b1 b2,bs=b1++b2∧LT B (l.take i) w (inner.take (i * 4)) b1∧LT B (l.drop i) w (inner.drop (i * 4)) b2
 | l,w,inner,bs,0,h=>⟨[],bs,rfl,by rw [Nat.zero_mul,List.take_zero,List.take_zero,LT];exact ⟨rfl,rfl⟩,by rw [Nat.zero_mul];exact h⟩
 | [],w,inner,bs,i+1,h=>by
  rw [LT] at h
  obtain ⟨rfl,rfl⟩:=h
  refine ⟨[],[],rfl,?_,?_⟩
  ·rw [List.take_nil,List.take_nil,LT];exact ⟨rfl,rfl⟩
  ·rw [List.drop_nil,List.drop_nil,LT];exact ⟨rfl,rfl⟩
 | x :: l,w,inner,bs,i+1,h=>by
  rw [LT] at h
  obtain ⟨v,bx,br,rest,rfl,rfl,h3,h4⟩:=h
  obtain ⟨b1,b2,rfl,h5,h6⟩:=LT_cut B l w rest br i h4
  refine ⟨bx++b1,b2,by rw [List.append_assoc],?_,?_⟩
  ·rw [show (i+1) * 4=i * 4+4 by omega]
   show LT B (x :: l.take i) w (.string x.name :: .int .u8 x.kind :: .string x.data :: v :: rest.take (i * 4)) _
   rw [LT]
   exact ⟨v,bx,b1,_,rfl,rfl,h3,h5⟩
  ·rw [show (i+1) * 4=i * 4+4 by omega]
   exact h6
theorem LT_app (B:Nat):∀ (l1 l2:List File) (w:World) (in1 in2:List Value) (b1 b2:List Nat),LT B l1 w in1 b1→LT B l2 w in2 b2→LT B (l1++l2) w (in1++in2) (b1++b2)
 | [],l2,w,in1,in2,b1,b2,h,h2=>by
  rw [LT] at h
  obtain ⟨rfl,rfl⟩:=h
  exact h2
 | x :: l1,l2,w,in1,in2,b1,b2,h,h2=>by
  rw [LT] at h
  obtain ⟨v,bx,br,rest,rfl,rfl,h3,h4⟩:=h
  have h5:=LT_app B l1 l2 w rest in2 br b2 h4 h2
  show LT B (x :: (l1++l2)) w (.string x.name :: .int .u8 x.kind :: .string x.data :: v :: (rest++in2)) _
  rw [LT]
  exact ⟨v,bx,br++b2,_,rfl,by rw [List.append_assoc],h3,h5⟩
theorem LT_one {B:Nat} {z:File} {w:World} {v:Value} {bz:List Nat} (h:FT B z w v bz):LT B [z] w [.string z.name,.int .u8 z.kind,.string z.data,v] bz:=by
 rw [LT]
 exact ⟨v,bz,[],[],rfl,by simp,h,by rw [LT];exact ⟨rfl,rfl⟩⟩
theorem FT_row {B g:Nat} {d:File} {w:World} {v:Value} {inner:List Value} {bs:List Nat} (hv:v.ownBlock=some g) (ho:w.ownsRow B 25 4 v d.files.length inner) (hL:LT B d.files w inner bs):FT B d w v (g :: bs):=by
 rw [FT_eq]
 exact .inr ⟨g,inner,bs,hv,rfl,ho,hL⟩
theorem FT_below {B:Nat} {x:File} {w w':World} {v:Value} {bl:List Nat} (h:FT B x w v bl) (hb:Below w.heap.size w w'):FT B x w' v bl:=FT_move B x w w' v bl h fun k hk=>hb.block k (FT_lt B x w v bl h k hk).1
theorem own_lower {B B':Nat} {w:World} {v:Value} {n:Nat} {xs:List Value} {e m:Nat} (h:w.ownsRow B e m v n xs) (hB:B'≤B):w.ownsRow B' e m v n xs:=by
 refine ⟨h.1,h.2.imp id ?_⟩
 rintro ⟨g,cap,cur,h1,h2,h3⟩
 exact ⟨g,cap,cur,h1,Nat.le_trans hB h2,h3⟩
mutual
theorem FT_lower {B B':Nat} (hB:B'≤B):∀ (x:File) (w:World) (v:Value) (bl:List Nat),FT B x w v bl→FT B' x w v bl
 | ⟨_,_,_,l⟩,w,v,bl,h=>by
  rw [FT] at h ⊢
  rcases h with h | ⟨g,inner,bs,hv,rfl,ho,hl⟩
  ·exact .inl h
  ·exact .inr ⟨g,inner,bs,hv,rfl,own_lower ho hB,LT_lower hB l w inner bs hl⟩
theorem LT_lower {B B':Nat} (hB:B'≤B):∀ (l:List File) (w:World) (inner:List Value) (bs:List Nat),LT B l w inner bs→LT B' l w inner bs
 | [],w,inner,bs,h=>by rw [LT] at h ⊢;exact h
 | x :: l,w,inner,bs,h=>by
  rw [LT] at h ⊢
  obtain ⟨v,bx,br,rest,h1,rfl,h3,h4⟩:=h
  exact ⟨v,bx,br,rest,h1,rfl,FT_lower hB x w v bx h3,LT_lower hB l w rest br h4⟩
end
theorem LT_ins {B:Nat} {l:List File} {w:World} {inner:List Value} {bs bz:List Nat} {z:File} {vz:Value} (i:Nat) (hL:LT B l w inner bs) (hz:FT B z w vz bz) :
  ∃ b1 b2,bs=b1++b2∧LT B (l.take i++z :: l.drop i) w (inner.take (i * 4)++[.string z.name,.int .u8 z.kind,.string z.data,vz]++inner.drop (i * 4)) (b1++(bz++b2)):=by
 obtain ⟨b1,b2,rfl,h1,h2⟩:=LT_cut B l w inner bs i hL
 refine ⟨b1,b2,rfl,?_⟩
 rw [List.append_assoc]
 exact LT_app B _ _ w _ _ _ _ h1 (LT_app B [z] _ w _ _ _ _ (LT_one hz) h2)
theorem LT_set {B:Nat} {l:List File} {w:World} {inner:List Value} {bs bz:List Nat} {z:File} {vz:Value} (i:Nat) (hL:LT B l w inner bs) (hz:FT B z w vz bz) :
  ∃ b1 b2 b3,bs=b1++(b2++b3)∧LT B (l.take i++z :: l.drop (i+1)) w (inner.take (i * 4)++[.string z.name,.int .u8 z.kind,.string z.data,vz]++inner.drop ((i+1) * 4)) (b1++(bz++b3)):=by
 obtain ⟨b1,b4,rfl,h1,h2⟩:=LT_cut B l w inner bs i hL
 obtain ⟨b2,b3,rfl,_,h3⟩:=LT_cut B _ w _ _ 1 h2
 refine ⟨b1,b2,b3,rfl,?_⟩
 rw [List.append_assoc]
 rw [List.drop_drop,List.drop_drop,show i * 4+1 * 4=(i+1) * 4 by omega] at h3
 exact LT_app B _ _ w _ _ _ _ h1 (LT_app B [z] _ w _ _ _ _ (LT_one hz) h3)
theorem LT_del {B:Nat} {l:List File} {w:World} {inner:List Value} {bs:List Nat} (i:Nat) (hL:LT B l w inner bs) :
  ∃ b1 b2 b3,bs=b1++(b2++b3)∧LT B (l.take i++l.drop (i+1)) w (inner.take (i * 4)++inner.drop ((i+1) * 4)) (b1++b3):=by
 obtain ⟨b1,b4,rfl,h1,h2⟩:=LT_cut B l w inner bs i hL
 obtain ⟨b2,b3,rfl,_,h3⟩:=LT_cut B _ w _ _ 1 h2
 refine ⟨b1,b2,b3,rfl,?_⟩
 rw [List.drop_drop,List.drop_drop,show i * 4+1 * 4=(i+1) * 4 by omega] at h3
 exact LT_app B _ _ w _ _ _ _ h1 h3
theorem nodup_mid {b1 b2 b3 bz:List Nat} {g:Nat} (h:(b1++(b2++b3)).Nodup) (hz:bz.Nodup) (hd:∀ k∈bz,k ∉ b1++(b2++b3)) (hg:g ∉ b1++(b2++b3)) (hgz:g ∉ bz):(g :: (b1++(bz++b3))).Nodup :=
 nodup_swap (List.nodup_cons.2 ⟨hg,h⟩) hz fun k hk=>.inr fun e=>by
  rcases List.mem_cons.1 e with rfl | e
  ·exact hgz hk
  ·exact hd k hk e
structure HeldC (tb B:Nat) (t:File) (v:Value) (bl:List Nat) (w:World):Prop where
 box:w.heap[tb]? = some (.cells #[.string t.name,.int .u8 t.kind,.string t.data,v] 25 (0,0))
 ft:FT B t w v bl
 nd:bl.Nodup
 off:∀ k∈bl,k≠tb
theorem HeldC.below {tb B:Nat} {t:File} {v:Value} {bl:List Nat} {w w':World} (h:HeldC tb B t v bl w) (hb:Below w.heap.size w w'):HeldC tb B t v bl w' :=
 ⟨(hb.block tb (blk_lt h.box)).trans h.box,FT_below h.ft hb,h.nd,h.off⟩
theorem HeldC.at {tb B:Nat} {t:File} {v:Value} {bl:List Nat} {w:World} (h:HeldC tb B t v bl w):∃ A c,v=.slice A t.files.length c∧FileAt w ⟨tb,0,none⟩ t A c:=by
 obtain ⟨A,c,rfl,hc,hC⟩:=FT_reads B t w v bl h.ft
 exact ⟨A,c,rfl,cell_of h.box rfl,cell_of h.box rfl,cell_of h.box rfl,cell_of h.box rfl,hc,hC⟩
theorem place {tb B:Nat} {t d:File} {v:Value} {bl:List Nat} {W:World} {q:List ByteArray} {ad':Addr} (h:HeldC tb B t v bl W) (hr:Reach W ⟨tb,0,none⟩ t q ad' d) :
  ∃ (g o:Nat) (v':Value) (inner:List Value) (bs:List Nat),ad'=⟨g,o,none⟩∧W.cell? ⟨g,o+3,none⟩=some v'∧(∃ cs,W.heap[g]? = some (.cells cs 25 (0,0)))∧(g=tb∨g∈bl)∧W.ownsRow B 25 4 v' d.files.length inner∧LT B d.files W inner bs∧bs.Nodup∧(∀ k∈bs,k∈bl∧k≠g∧k≠tb∧v'.ownBlock≠some k)∧(∀ k,v'.ownBlock=some k→k∈bl∧k≠g∧k≠tb) ∧
   ∀ (W':World) (v2:Value) (l':List File) (by':List Nat),(∀ k,k=tb∨k∈bl→k≠g→k ∉ bs→v'.ownBlock≠some k→W'.heap[k]? = W.heap[k]?)→W'.heap[g]? = (W.setCell ⟨g,o+3,none⟩ v2).heap[g]? →
    FT B {d with files:=l'} W' v2 by'→by'.Nodup→(∀ k∈by',k∈bs∨v'.ownBlock=some k∨(k ∉ bl∧k≠tb)) →
    ∃ v3 bl2,HeldC tb B (putP t q {d with files:=l'}) v3 bl2 W'∧∀ k∈bl2,k∈bl∨k∈by':=by
 have hlt:=FT_lt B t W v bl h.ft
 have htb:=h.off
 cases q with
 | nil =>
  obtain ⟨rfl,rfl⟩:=hr
  obtain ⟨inner,bs,ho,hL,hbn,hbs,hvb⟩:=FT_own h.ft h.nd
  refine ⟨tb,0,v,inner,bs,rfl,cell_of h.box rfl,⟨_,h.box⟩,.inl rfl,ho,hL,hbn,fun k hk=>⟨(hbs k hk).1,htb k (hbs k hk).1,htb k (hbs k hk).1,(hbs k hk).2⟩,fun k hk=>⟨hvb k hk,htb k (hvb k hk),htb k (hvb k hk)⟩,fun W' v2 l' by' hO hg hF hN hsub => ?_⟩
  refine ⟨v2,by',⟨?_,by rw [putP];exact hF,hN,fun k hk => ?_⟩,fun k hk=>.inr hk⟩
  ·rw [hg,putP]
   exact blk_put (cs:=#[.string d.name,.int .u8 d.kind,.string d.data,v]) h.box 3 _ rfl
  ·rcases hsub k hk with e | e | e
   ·exact htb k (hbs k e).1
   ·exact htb k (hvb k e)
   ·exact e.2
 | cons n q =>
  obtain ⟨g,o,v',by_,rfl,hgb,hc,hF,hby,hbn,hT⟩:=focus B W q n t ⟨tb,0,none⟩ ad' d v bl (cell_of h.box rfl) h.ft h.nd hr
  obtain ⟨inner,bs,ho,hL,hbsn,hbs,hvb⟩:=FT_own hF hbn
  refine ⟨g,o,v',inner,bs,rfl,hc,FT_cells B t W v bl h.ft g hgb,.inr hgb,ho,hL,hbsn,fun k hk=>⟨(hby k (hbs k hk).1).1,(hby k (hbs k hk).1).2,htb k (hby k (hbs k hk).1).1,(hbs k hk).2⟩,fun k hk=>⟨(hby k (hvb k hk)).1,(hby k (hvb k hk)).2,htb k (hby k (hvb k hk)).1⟩,fun W' v2 l' by' hO hg hF2 hN2 hsub => ?_⟩
  obtain ⟨bl',hF',hn',hs'⟩:=hT W' v2 {d with files:=l'} by' (fun k hk h1 h3=>hO k (.inr hk) h1 (fun e=>h3 (hbs k e).1) (fun e=>h3 (hvb k e))) hg hF2 rfl rfl rfl hN2 (fun k hk=>by
   rcases hsub k hk with e | e | e
   ·exact .inl (hbs k e).1
   ·exact .inl (hvb _ e)
   ·exact .inr e.1)
  obtain ⟨k1,k2,k3⟩:=putP_keep t n q {d with files:=l'}
  refine ⟨v,bl',⟨?_,hF',hn',fun k hk => ?_⟩,fun k hk => ?_⟩
  ·rw [k1,k2,k3]
   exact (hO tb (.inl rfl) (fun e=>htb g hgb e.symm) (fun e=>htb tb (hby tb (hbs tb e).1).1 rfl) (fun e=>htb tb (hby tb (hvb tb e)).1 rfl)).trans h.box
  ·rcases hs' k hk with hk | hk
   ·exact htb k hk
   ·rcases hsub k hk with e | e | e
    ·exact htb k (hby k (hbs k e).1).1
    ·exact htb k (hby _ (hvb _ e)).1
    ·exact e.2
  ·exact hs' k hk
theorem turnC {tb B:Nat} {t d:File} {v:Value} {bl:List Nat} {W:World} {q:List ByteArray} {ad':Addr} (h:HeldC tb B t v bl W) (hr:Reach W ⟨tb,0,none⟩ t q ad' d) :
  ∃ (g o:Nat) (v':Value) (inner:List Value) (bs:List Nat),ad'=⟨g,o,none⟩∧W.cell? ⟨g,o+3,none⟩=some v'∧(∃ cs,W.heap[g]? = some (.cells cs 25 (0,0)))∧(g=tb∨g∈bl)∧W.ownsRow B 25 4 v' d.files.length inner∧LT B d.files W inner bs∧bs.Nodup∧(∀ k∈bs,k∈bl)∧(∀ k,v'.ownBlock=some k→k∈bl∧k≠g∧k≠tb) ∧
   ∀ (W':World) (v2:Value) (l':List File) (inner':List Value) (b1 b2 b3 bz:List Nat) (g2:Nat),LT B l' W inner' (b1++(bz++b3))→bs=b1++(b2++b3)→bz.Nodup→(∀ k∈bz,k≠tb∧k ∉ bl∧k<W.heap.size) →
    (∀ k,k=tb∨k∈bl∨k∈bz→k≠g→v'.ownBlock≠some k→W'.heap[k]? = W.heap[k]?)→W'.heap[g]? = (W.setCell ⟨g,o+3,none⟩ v2).heap[g]? →
    W'.ownsRow B 25 4 v2 l'.length inner'→v2.ownBlock=some g2→(v'.ownBlock=some g2∨W.heap.size≤g2) →
    ∃ v3 bl2,HeldC tb B (putP t q {d with files:=l'}) v3 bl2 W'∧∀ k∈bl2,k∈bl∨k∈bz∨W.heap.size≤k:=by
 obtain ⟨g,o,v',inner,bs,had,hc,hgc,hgm,ho,hL,hN,hbs,hvb,hP⟩:=place h hr
 refine ⟨g,o,v',inner,bs,had,hc,hgc,hgm,ho,hL,hN,fun k hk=>(hbs k hk).1,hvb,fun W' v2 l' inner' b1 b2 b3 bz g2 hL' hbb hzN hz hO hg ho' hg2 hor => ?_⟩
 have htl:tb<W.heap.size:=blk_lt h.box
 have hsz:=fun k hk=>(FT_lt B t W v bl h.ft k hk).1
 have hgz:∀ k∈bz,k≠g:=fun k hk e=>by
  rcases hgm with e2 | e2
  ·exact (hz k hk).1 (e.trans e2)
  ·exact (hz k hk).2.1 (e ▸ e2)
 have hg2bs:g2 ∉ bs:=fun hk=>by
  rcases hor with e | e
  ·exact (hbs g2 hk).2.2.2 e
  ·have:=hsz g2 (hbs g2 hk).1
   omega
 have hg2z:g2 ∉ bz:=fun hk=>by
  rcases hor with e | e
  ·exact (hz g2 hk).2.1 (hvb g2 e).1
  ·have:=(hz g2 hk).2.2
   omega
 have hm:∀ k∈b1++(bz++b3),W'.heap[k]? = W.heap[k]? := fun k hk=>by
  have hk2:k∈bs∨k∈bz:=by
   rw [hbb]
   simp only [List.mem_append] at hk ⊢
   rcases hk with hk | hk | hk
   ·exact .inl (.inl hk)
   ·exact .inr hk
   ·exact .inl (.inr (.inr hk))
  rcases hk2 with hk2 | hk2
  ·exact hO k (.inr (.inl (hbs k hk2).1)) (hbs k hk2).2.1 (hbs k hk2).2.2.2
  ·exact hO k (.inr (.inr hk2)) (hgz k hk2) (fun e=>(hz k hk2).2.1 (hvb k e).1)
 obtain ⟨v3,bl2,hH,hs⟩:=hP W' v2 l' (g2 :: (b1++(bz++b3))) (fun k hk h1 h2 h3=>hO k (hk.imp id .inl) h1 h3) hg (FT_row (d:={d with files:=l'}) hg2 ho' (LT_move B l' W W' inner' _ hL' hm)) (nodup_mid (b2:=b2) (hbb ▸ hN) hzN (fun k hk e=>(hz k hk).2.1 (hbs k (hbb ▸ e)).1) (hbb ▸ hg2bs) hg2z) (fun k hk=>by
  rcases List.mem_cons.1 hk with rfl | hk
  ·rcases hor with e | e
   ·exact .inr (.inl e)
   ·exact .inr (.inr ⟨fun e2=>by have:=hsz k e2;omega,by omega⟩)
  ·rcases List.mem_append.1 hk with hk | hk
   ·exact .inl (by rw [hbb];simp [hk])
   ·rcases List.mem_append.1 hk with hk | hk
    ·exact .inr (.inr ⟨(hz k hk).2.1,(hz k hk).1⟩)
    ·exact .inl (by rw [hbb];simp [hk]))
 refine ⟨v3,bl2,hH,fun k hk => ?_⟩
 rcases hs k hk with e | e
 ·exact .inl e
 ·rcases List.mem_cons.1 e with rfl | e
  ·rcases hor with e | e
   ·exact .inl (hvb k e).1
   ·exact .inr (.inr e)
  ·rcases List.mem_append.1 e with e | e
   ·exact .inl (hbs k (by rw [hbb];simp [e])).1
   ·rcases List.mem_append.1 e with e | e
    ·exact .inr (.inl e)
    ·exact .inl (hbs k (by rw [hbb];simp [e])).1
theorem setCell_id {W:World} {b o:Nat} {v:Value} {k:Nat} (h:W.cell? ⟨b,o,none⟩=some v):(W.setCell ⟨b,o,none⟩ v).heap[k]? = W.heap[k]? := by
 by_cases hk:k=b
 ·subst hk
  unfold World.cell? at h
  simp only [World.setCell,Array.getElem?_modify,if_true]
  cases hh:W.heap[k]? with
  | none=>rfl
  | some x =>
   rw [hh] at h
   cases x with
   | cells cs t fr =>
    simp only [Option.isSome_none,Bool.false_eq_true,if_false] at h
    simp only [Option.map_some,Option.isSome_none,Bool.false_eq_true,if_false]
    have hset:cs.setIfInBounds o v=cs:=by
     apply Array.ext_getElem?
     intro j
     rw [Array.getElem?_setIfInBounds]
     split
     ·rename_i e
      subst e
      split
      ·exact h.symm
      ·rename_i hlt
       rw [Array.getElem?_eq_none (by omega)]
     ·rfl
    rw [hset]
   | _=>cases h
 ·exact Below.heap_setCell _ _ _ _ hk
theorem LT_one' {B:Nat}:∀ (l:List File) (w:World) (inner:List Value) (bs:List Nat),LT B l w inner bs→∀ u∈inner,u.oneCell'=true
 | [],w,inner,bs,h=>by
  rw [LT] at h
  obtain ⟨rfl,rfl⟩:=h
  intro u hu;cases hu
 | x :: l,w,inner,bs,h=>by
  rw [LT] at h
  obtain ⟨v,bx,br,rest,rfl,rfl,h3,h4⟩:=h
  obtain ⟨A,c,rfl,_,_⟩:=FT_reads B x w v bx h3
  intro u hu
  simp only [List.mem_cons] at hu
  rcases hu with rfl | rfl | rfl | rfl | hu
  ·rfl
  ·rfl
  ·rfl
  ·rfl
  ·exact LT_one' l w rest br h4 u hu
end
section
theorem run_copy_rows {P:Program} (w:World) (dT sT ty elem:TypeId) (g o dLen dCap:Nat) (a:Addr) (sLen sCap n m:Nat) (cur:Array Value) (t:TypeId) (cs:List Value)
  (hu:P.underlying dT=some (.slice elem)) (hs:(P.info? elem).map (·.size)=some m)
  (hg:w.heap[g]? = some (.cells cur t (0,0))) (hn:n=Nat.min sLen dLen) (hl:cs.length=n * m)
  (hsrc:∀ j v,cs[j]? = some v→w.cell? (a.add j)=some v) (hfit:o+cs.length≤cur.size) (h1:∀ v∈cs,v.oneCell'=true) :
  (Builtin.copy_ #[dT,sT] ty #[.slice (some ⟨g,o,none⟩) dLen dCap,.slice (some a) sLen sCap]).run P w =
   .ok (goInt n) (w.setRow g (cur.toList.take o++cs++cur.toList.drop (o+cs.length)).toArray):=by
 have hst:=run_storeCells_at P g o t cs 0 cur w hg (by simpa using hfit) h1
 cases hq:P.info? elem with
 | none=>simp [hq] at hs
 | some i =>
  have hi:i.size=m:=by simpa [hq] using hs
  have hf:(Builtin.firstCells i.size n (.slice (some a) sLen sCap)).run P w=.ok cs.toArray w:=run_firstCells_some w i.size n a sLen sCap cs (by rw [hi];exact hl) hsrc
  simp [Builtin.copy_,run_underlying hu,Builtin.lenOf,sizeOf,typeInfo,hq,← hn,hf,hst]
def putCs (inner cs:List Value) (i:Nat):List Value:=inner.take (i * 4)++cs++inner.drop (i * 4)
theorem setRow_below {w:World} {g:Nat} (cs:Array Value):Only (fun k=>k=g) w (w.setRow g cs):=⟨rfl,rfl,rfl,by simp,fun k hk hn=>setRow_other w g k cs hn⟩
theorem sz_file:(Tryz.prog.info? 25).map (·.size)=some 4:=by kernel_rfl
theorem infoF:∃ i0,Tryz.prog.info? 25=some i0∧i0.zero=some (.agg #[(.string ⟨#[]⟩),(.int .u8 0),(.string ⟨#[]⟩),(.slice none 0 0)])∧i0.size=4∧i0.bytes=64:=by
 obtain ⟨i0,hi,hzz⟩:=Option.map_eq_some_iff.1 info_file
 simp only [Prod.mk.injEq] at hzz
 exact ⟨i0,hi,hzz.1,hzz.2.1,hzz.2.2⟩
set_option maxHeartbeats 8000000 in
set_option maxRecDepth 100000 in
theorem insert_calls (v:Value) (n:Nat) (inner cs:List Value) (i B:Nat) (W:World) (hrow:W.ownsRow B 25 4 v n inner) (hB:B≤W.heap.size) (hi:i≤n) (hcs:cs.length=4) (h1:∀ u∈cs,u.oneCell'=true) (h1i:∀ u∈inner,u.oneCell'=true) (hn:n≤274877906944) :
  Calls Tryz.prog 128 #[v,.int .i64 i,.slice (some ⟨W.heap.size,0,none⟩) 1 1] (W.alloc (.cells cs.toArray 25)) fun e w'=>∃ v',e=.returned v'∧w'.ownsRow B 25 4 v' (n+1) (putCs inner cs i)∧Only (fun k=>v.ownBlock=some k) W w'∧(v'.ownBlock=v.ownBlock∨∃ b,v'.ownBlock=some b∧W.heap.size≤b):=by
 have HROW:=Lib.hid hrow
 have hil:inner.length=n * 4:=hrow.1
 by_cases hin:i=n
 ·subst hin
  have hput:putCs inner cs i=inner++cs:=by
   unfold putCs
   rw [List.take_of_length_le (by omega),List.drop_of_length_le (by omega),List.append_nil]
  rw [hput]
  rcases hrow.2 with ⟨rfl,h0⟩ | ⟨g,cap,cur,rfl,hgB,hg,hnc,hcm,hcz,htk⟩
  ·subst h0
   clear hrow hput hil
   go_enter Tryz.func128,Tryz.ntmps128
   go_wp2_with (at_builtin;refine print_append_cells (w0:=W) B rfl (.tmp 23) (.tmp 24) 23 25 (.agg #[(.string ⟨#[]⟩),(.int .u8 0),(.string ⟨#[]⟩),(.slice none 0 0)]) 4 64 rfl Tryz.underlying23 info_file rfl (by decide) (by decide) _ 0 inner cs rfl rfl hcs h1 HROW.out (Below.refl _ _ |>.mono hB) hB (by omega) ?_;intro v1 w1 hown1 hb1 hg1 hat1;have HO1:=Lib.hid hown1;clear hown1)
   go_ret
   exact ⟨v1,rfl,HO1.out,Only.grown_of hg1,hat1⟩
  ·clear hrow hput hil
   go_enter Tryz.func128,Tryz.ntmps128
   go_wp2_with (at_builtin;refine print_append_cells (w0:=W) B rfl (.tmp 23) (.tmp 24) 23 25 (.agg #[(.string ⟨#[]⟩),(.int .u8 0),(.string ⟨#[]⟩),(.slice none 0 0)]) 4 64 rfl Tryz.underlying23 info_file rfl (by decide) (by decide) _ i inner cs rfl rfl hcs h1 HROW.out (Below.refl _ _ |>.mono hB) hB (by omega) ?_;intro v1 w1 hown1 hb1 hg1 hat1;have HO1:=Lib.hid hown1;clear hown1)
   all_goals
    go_ret
    exact ⟨v1,rfl,HO1.out,Only.grown_of hg1,hat1⟩
 ·have hlt:i<n:=by omega
  rcases hrow.2 with ⟨rfl,h0⟩ | ⟨g,cap,cur,rfl,hgB,hg,hnc,hcm,hcz,htk⟩
  ·omega
  ·have hgW:g<W.heap.size:=(Array.getElem?_eq_some_iff.1 hg).1
   have hz1:¬ ((i:Int)=(n:Int)):=by omega
   obtain ⟨d,hd⟩:∃ d,n=i+d:=⟨n - i,by omega⟩
   have hg0:(W.alloc (.cells cs.toArray 25)).heap[g]? = some (.cells cur 25 (0,0)):=(Below.heap_alloc W _ g (by omega)).trans hg
   have hv0:=blk_new W (.cells cs.toArray 25)
   have hcl:cur.toList.length=cap * 4:=by rw [Array.length_toList,hcz]
   have hci:∀ j u,(inner.drop (i * 4))[j]? = some u→cur.toList[i * 4+j]? = some u:=fun j u hj=>by
    rw [List.getElem?_drop,← htk,List.getElem?_take] at hj
    split at hj
    ·exact hj
    ·cases hj
   have hdl:(inner.drop (i * 4)).length=d * 4:=by rw [List.length_drop,hil];omega
   have hdo:∀ u∈inner.drop (i * 4),u.oneCell'=true:=fun u hu=>h1i u (List.mem_of_mem_drop hu)
   have htl:inner.take (i * 4)=cur.toList.take (i * 4):=by rw [← htk,List.take_take,Nat.min_eq_left (by omega)]
   have hvl:(inner.take (i * 4)).length=i * 4:=by rw [List.length_take,hil];omega
   by_cases hroom:n+1≤cap
   ·have hov:∀ o lb cb,(callFunc 138 #[.slice (some ⟨W.heap.size,0,none⟩) 1 1,.slice (some ⟨g,o,none⟩) lb cb]).run Tryz.prog (W.alloc (.cells cs.toArray 25))=.ok (.value (.bool false)) (W.alloc (.cells cs.toArray 25)):=fun o lb cb=>by
     rw [run_callFunc_extern Tryz.func138 (by kernel_rfl) (by kernel_rfl) (by kernel_rfl) (e:=Extern.SlicesOverlaps.overlaps #[23,23] #[4]) (by kernel_rfl),
      Lib.run_overlaps_apart _ 23 4 25 Tryz.underlying23 4 (fun _=>by rfl) ⟨W.heap.size,0,none⟩ ⟨g,o,none⟩ 1 1 lb cb (by simp only;omega) 25 25 4 (cap * 4) (by unfold World.shape?;simp only;rw [hv0];simp [hcs]) (by unfold World.shape?;simp only;rw [hg0];simp [hcz]) (by omega) (by unfold World.frozen?;simp only;rw [hv0];simp) (by unfold World.frozen?;simp only;rw [hv0];simp)]
     rfl
    obtain ⟨c1,hc1⟩:∃ c1,(cur.toList.take ((i+1) * 4)++inner.drop (i * 4)++cur.toList.drop ((i+1) * 4+(inner.drop (i * 4)).length)).toArray=c1:=⟨_,rfl⟩
    have hc1l:c1.toList=inner.take (i * 4)++(cur.toList.drop (i * 4)).take 4++inner.drop (i * 4)++cur.toList.drop ((n+1) * 4):=by
     rw [← hc1,List.toList_toArray,hdl,htl,show (i+1) * 4+d * 4=(n+1) * 4 by omega,show (i+1) * 4=i * 4+4 by omega,List.take_add]
    have hc1s:c1.size=cap * 4:=by
     rw [← Array.length_toList,hc1l]
     simp only [List.length_append,List.length_take,List.length_drop,hcl,hil]
     omega
    obtain ⟨c2,hc2⟩:∃ c2,(c1.toList.take (i * 4)++cs++c1.toList.drop (i * 4+cs.length)).toArray=c2:=⟨_,rfl⟩
    have hc2l:c2.toList=putCs inner cs i++cur.toList.drop ((n+1) * 4):=by
     rw [← hc2,List.toList_toArray,hc1l,hcs]
     unfold putCs
     have e4:((cur.toList.drop (i * 4)).take 4).length=4:=by simp only [List.length_take,List.length_drop,hcl];omega
     rw [show i * 4+4=(inner.take (i * 4)++(cur.toList.drop (i * 4)).take 4).length by rw [List.length_append,hvl,e4]]
     simp only [List.append_assoc]
     rw [← List.append_assoc (inner.take (i * 4)) ((cur.toList.drop (i * 4)).take 4),List.drop_left,List.append_assoc,show i * 4=(inner.take (i * 4)).length from hvl.symm]
     rw [List.take_left' (by simp [hvl])]
    have hcp1:∀ (V:World),V.heap[g]? = some (.cells cur 25 (0,0))→∀ ty dc sc,(Builtin.copy_ #[23,23] ty #[.slice (some ⟨g,(i+1) * 4,none⟩) (n - i) dc,.slice (some ⟨g,i * 4,none⟩) (n+1 - i) sc]).run Tryz.prog V=.ok (goInt d) (V.setRow g c1):=fun V hV ty dc sc=>by
     rw [← hc1]
     exact run_copy_rows V _ _ ty 25 g ((i+1) * 4) (n - i) dc ⟨g,i * 4,none⟩ (n+1 - i) sc d 4 cur 25 (inner.drop (i * 4)) Tryz.underlying23 sz_file hV (by simp only [Nat.min_def];split <;> omega) hdl
      (fun j u hj=>by
       have h:=hci j u hj
       rw [show (⟨g,i * 4,none⟩:Addr).add j=⟨g,i * 4+j,none⟩ by unfold Addr.add;split <;> simp_all]
       simpa [World.cell?,hV] using h) (by rw [hdl,hcz];omega) hdo
    have hcp2:∀ (V:World),V.heap[g]? = some (.cells c1 25 (0,0))→V.heap[W.heap.size]? = some (.cells cs.toArray 25 (0,0))→∀ ty dc,(Builtin.copy_ #[23,23] ty #[.slice (some ⟨g,i * 4,none⟩) (n+1 - i) dc,.slice (some ⟨W.heap.size,0,none⟩) 1 1]).run Tryz.prog V=.ok (goInt ((1:Nat):Int)) (V.setRow g c2):=fun V hV hV2 ty dc=>by
     rw [← hc2]
     exact run_copy_rows V _ _ ty 25 g (i * 4) (n+1 - i) dc ⟨W.heap.size,0,none⟩ 1 1 1 4 c1 25 cs Tryz.underlying23 sz_file hV (by simp only [Nat.min_def];split <;> omega) hcs
      (fun j u hj=>by
       rw [show (⟨W.heap.size,0,none⟩:Addr).add j=⟨W.heap.size,j,none⟩ by unfold Addr.add;split <;> simp_all]
       simpa [World.cell?,hV2] using hj) (by rw [hcs,hc1s];omega) h1
    have HFIN:Hid (∀ V:World,V.heap[g]? = some (.cells c2 25 (0,0))→V.ownsRow B 25 4 (.slice (some ⟨g,0,none⟩) (n+1) cap) (n+1) (putCs inner cs i)):=Lib.hid fun V hV=>by
     have hpl:(putCs inner cs i).length=(n+1) * 4:=by
      unfold putCs
      simp only [List.length_append,hvl,hdl,hcs]
      omega
     have hc2s:c2.size=cap * 4:=by
      rw [← Array.length_toList,hc2l,List.length_append,hpl,List.length_drop,hcl]
      omega
     exact ⟨hpl,.inr ⟨g,cap,c2,rfl,hgB,hV,hroom,hcm,hc2s,by rw [hc2l,← hpl,List.take_left]⟩⟩
    have HO1:=Lib.hid ((Only.alloc (fun k=>k=g) W (.cells cs.toArray 25)).drew)
    have hg1:(W.alloc (.cells cs.toArray 25)).drew.heap[g]? = some (.cells cur 25 (0,0)):=hg0
    have hs1:=setRow_heap (W.alloc (.cells cs.toArray 25)).drew g cur c1 _ _ hg1
    have hs2:=setRow_heap ((W.alloc (.cells cs.toArray 25)).drew.setRow g c1) g c1 c2 _ _ hs1
    have hv1:((W.alloc (.cells cs.toArray 25)).drew.setRow g c1).heap[W.heap.size]? = some (.cells cs.toArray 25 (0,0)):=(setRow_other _ g _ c1 (by omega)).trans hv0
    have HS2:=Lib.hid hs2
    have HCP1:=hcp1 _ hg1
    have HCP2:=hcp2 _ hs1 hv1
    have mixed:Tryz.prog.follows .mixedOrders=true:=by kernel_rfl
    have w1:IntKind.i64.wrap ((i:Int)+1)=(i:Int)+1:=by rw [IntKind.wrap_i64];omega
    have m0:(0:Int)≤(i:Int)+1:=by omega
    have m1:¬ (cap=i+1):=by omega
    have m2:¬ (cap=i):=by omega
    have m3:(i:Int)≤(n:Int)+1:=by omega
    have m4:(i:Int)+1≤(n:Int)+1:=by omega
    have m5:((i:Int)+1).toNat=i+1:=by omega
    clear hrow hcp1 hcp2 hc1 hc2 hc1l hc2l hci hdl htl hvl hcl hdo hd hil htk
    go_enter Tryz.func128,Tryz.ntmps128
    go_wp2_with (simp only [hov])
    go_region_law_o (refine step_copy_runI rfl _ _ 23 23 rfl _ _ (by simp [Act.eval,Act.put]) (by simp [Act.eval,Act.put]) (HCP1 _ _ _) ?_)
    go_wp2_with (at_builtin;refine wpList_copy_runI _ rfl _ _ 23 23 rfl _ _ rfl rfl (HCP2 _ _) ?_)
    go_ret
    refine ⟨_,rfl,HFIN.out _ HS2.out,?_,.inl rfl⟩
    exact ((HO1.out.trans (setRow_below c1) (fun k _ h=>h) (fun k _ h=>h)).trans (setRow_below c2) (fun k _ h=>h) (fun k _ h=>h)).mono fun k _ h=>by rw [h];rfl
   ·have hz3:(cap:Int)<(n:Int)+1:=by omega
    obtain ⟨i0,hi0,hz0,hzs,hzb⟩:=infoF
    have hS1:(W.alloc (.cells cs.toArray 25)).heap.size=W.heap.size+1:=by simp
    have hold:(Builtin.firstCells i0.size i (.slice (some ⟨g,0,none⟩) i cap)).run Tryz.prog (W.alloc (.cells cs.toArray 25)).drew=.ok (inner.take (i * 4)).toArray (W.alloc (.cells cs.toArray 25)).drew:=by
     rw [hzs]
     exact run_firstCells_some _ 4 i ⟨g,0,none⟩ i cap (inner.take (i * 4)) hvl (fun j u hj=>by
      rw [Addr.add_lit,Nat.zero_add]
      rw [htl,List.getElem?_take] at hj
      split at hj
      ·have hg1:(W.alloc (.cells cs.toArray 25)).drew.heap[g]? = some (.cells cur 25 (0,0)):=hg0
       simpa [World.cell?,hg1] using hj
      ·cases hj)
    have hkk:(n:Int)+1 - (i:Int)=((n+1 - i:Nat):Int):=by omega
    have hik:i+(n+1 - i)=n+1:=by omega
    obtain ⟨G,hG⟩:∃ G,G=grownCap (W.alloc (.cells cs.toArray 25)) (n+1) cap 25:=⟨_,rfl⟩
    obtain ⟨ROW,hROW⟩:∃ ROW:Array Value,ROW=(inner.take (i * 4)).toArray++Builtin.zeroCells (Value.agg #[(.string ⟨#[]⟩),(.int .u8 0),(.string ⟨#[]⟩),(.slice none 0 0)]).cells (n+1 - i)++Builtin.zeroCells (Value.agg #[(.string ⟨#[]⟩),(.int .u8 0),(.string ⟨#[]⟩),(.slice none 0 0)]).cells (G - (n+1)):=⟨_,rfl⟩
    have hGn:n+1≤G:=by rw [hG];exact grownCap_ge _ _ _ _
    have hGm:G≤maxLen:=by rw [hG];exact grownCap_le_maxLen _ _ _ _ (by unfold maxLen;omega)
    have hrz:∀ ty,(Builtin.append_ #[23,3] ty #[.slice (some ⟨g,0,none⟩) i cap,.int .i64 ((n:Int)+1 - (i:Int))]).run Tryz.prog (W.alloc (.cells cs.toArray 25)) =
      .ok (.slice (some ⟨W.heap.size+1,0,none⟩) (n+1) G) ((W.alloc (.cells cs.toArray 25)).drew.alloc (.cells ROW 25)):=fun ty=>by
     have h:=Lib.run_append_grow_zeros (W.alloc (.cells cs.toArray 25)) 23 3 ty 25 i0 _ .i64 .i64 Tryz.underlying23 Tryz.underlying3 hi0 hz0 (some ⟨g,0,none⟩) i cap (inner.take (i * 4)) hold (n+1 - i) (by omega) (by omega) (by omega) (by omega) (by rw [hzb];omega) (by rw [hzb,hik];exact growslice_fits (by omega) (by omega))
     rw [hik] at h
     rw [hkk,hROW,hG,← hS1]
     exact h
    have hRs:ROW.size=G * 4:=by
     rw [hROW]
     simp only [Array.size_append,List.size_toArray,hvl,Builtin.zeroCells,Array.size_map,Array.size_range]
     simp [Value.cells]
     omega
    obtain ⟨d1,hd1⟩:∃ d1,(ROW.toList.take (i * 4)++cs++ROW.toList.drop (i * 4+cs.length)).toArray=d1:=⟨_,rfl⟩
    have hd1l:d1.toList=inner.take (i * 4)++cs++ROW.toList.drop ((i+1) * 4):=by
     rw [← hd1,List.toList_toArray,hcs,show i * 4+4=(i+1) * 4 by omega]
     congr 2
     rw [hROW,Array.toList_append,Array.toList_append,List.toList_toArray,List.append_assoc,List.take_append_of_le_length (by rw [hvl];exact Nat.le_refl _),List.take_of_length_le (by rw [hvl];exact Nat.le_refl _)]
    have hd1s:d1.size=G * 4:=by
     rw [← Array.length_toList,hd1l]
     simp only [List.length_append,hvl,hcs,List.length_drop,Array.length_toList,hRs]
     omega
    obtain ⟨d2,hd2⟩:∃ d2,(d1.toList.take ((i+1) * 4)++inner.drop (i * 4)++d1.toList.drop ((i+1) * 4+(inner.drop (i * 4)).length)).toArray=d2:=⟨_,rfl⟩
    have hd2l:d2.toList=putCs inner cs i++d1.toList.drop ((n+1) * 4):=by
     rw [← hd2,List.toList_toArray,hdl,show (i+1) * 4+d * 4=(n+1) * 4 by omega,hd1l]
     unfold putCs
     congr 2
     rw [List.take_append_of_le_length (by rw [List.length_append,hvl,hcs];omega),List.take_of_length_le (by rw [List.length_append,hvl,hcs];omega)]
    have hcpA:∀ (V:World),V.heap[W.heap.size+1]? = some (.cells ROW 25 (0,0))→V.heap[W.heap.size]? = some (.cells cs.toArray 25 (0,0))→∀ ty dc,(Builtin.copy_ #[23,23] ty #[.slice (some ⟨W.heap.size+1,i * 4,none⟩) (n+1 - i) dc,.slice (some ⟨W.heap.size,0,none⟩) 1 1]).run Tryz.prog V=.ok (goInt ((1:Nat):Int)) (V.setRow (W.heap.size+1) d1):=fun V hV hV2 ty dc=>by
     rw [← hd1]
     exact run_copy_rows V _ _ ty 25 (W.heap.size+1) (i * 4) (n+1 - i) dc ⟨W.heap.size,0,none⟩ 1 1 1 4 ROW 25 cs Tryz.underlying23 sz_file hV (by simp only [Nat.min_def];split <;> omega) hcs
      (fun j u hj=>by
       rw [show (⟨W.heap.size,0,none⟩:Addr).add j=⟨W.heap.size,j,none⟩ by unfold Addr.add;split <;> simp_all]
       simpa [World.cell?,hV2] using hj) (by rw [hcs,hRs];omega) h1
    have hcpB:∀ (V:World),V.heap[W.heap.size+1]? = some (.cells d1 25 (0,0))→V.heap[g]? = some (.cells cur 25 (0,0))→∀ ty dc sc,(Builtin.copy_ #[23,23] ty #[.slice (some ⟨W.heap.size+1,(i+1) * 4,none⟩) (n - i) dc,.slice (some ⟨g,i * 4,none⟩) (n - i) sc]).run Tryz.prog V=.ok (goInt d) (V.setRow (W.heap.size+1) d2):=fun V hV hV2 ty dc sc=>by
     rw [← hd2]
     exact run_copy_rows V _ _ ty 25 (W.heap.size+1) ((i+1) * 4) (n - i) dc ⟨g,i * 4,none⟩ (n - i) sc d 4 d1 25 (inner.drop (i * 4)) Tryz.underlying23 sz_file hV (by simp only [Nat.min_def];split <;> omega) hdl
      (fun j u hj=>by
       have h:=hci j u hj
       rw [show (⟨g,i * 4,none⟩:Addr).add j=⟨g,i * 4+j,none⟩ by unfold Addr.add;split <;> simp_all]
       simpa [World.cell?,hV2] using h) (by rw [hdl,hd1s];omega) hdo
    have HFIN:Hid (∀ V:World,V.heap[W.heap.size+1]? = some (.cells d2 25 (0,0))→V.ownsRow B 25 4 (.slice (some ⟨W.heap.size+1,0,none⟩) (n+1) G) (n+1) (putCs inner cs i)):=Lib.hid fun V hV=>by
     have hpl:(putCs inner cs i).length=(n+1) * 4:=by
      unfold putCs
      simp only [List.length_append,hvl,hdl,hcs]
      omega
     have hd2s:d2.size=G * 4:=by
      rw [← Array.length_toList,hd2l,List.length_append,hpl,List.length_drop,Array.length_toList,hd1s]
      omega
     exact ⟨hpl,.inr ⟨_,G,d2,rfl,by omega,hV,hGn,hGm,hd2s,by rw [hd2l,← hpl,List.take_left]⟩⟩
    obtain ⟨W1,hW1⟩:∃ W1,W1=(W.alloc (.cells cs.toArray 25)).drew.alloc (.cells ROW 25):=⟨_,rfl⟩
    rw [← hW1] at hrz
    have hr1:W1.heap[W.heap.size+1]? = some (.cells ROW 25 (0,0)):=by
     rw [hW1,← hS1]
     exact blk_new (W.alloc (.cells cs.toArray 25)).drew _
    have hr2:W1.heap[W.heap.size]? = some (.cells cs.toArray 25 (0,0)):=by
     rw [hW1]
     exact (Below.heap_alloc (W.alloc (.cells cs.toArray 25)).drew _ _ (by show W.heap.size<(W.alloc (.cells cs.toArray 25)).heap.size;omega)).trans hv0
    have hr3:W1.heap[g]? = some (.cells cur 25 (0,0)):=by
     rw [hW1]
     exact (Below.heap_alloc (W.alloc (.cells cs.toArray 25)).drew _ _ (by show g<(W.alloc (.cells cs.toArray 25)).heap.size;omega)).trans hg0
    have hs1:(W1.setRow (W.heap.size+1) d1).drew.heap[W.heap.size+1]? = some (.cells d1 25 (0,0)):=setRow_heap W1 _ ROW d1 _ _ hr1
    have hs3:(W1.setRow (W.heap.size+1) d1).drew.heap[g]? = some (.cells cur 25 (0,0)):=(setRow_other _ _ _ d1 (by omega)).trans hr3
    have HS2:=Lib.hid (setRow_heap (W1.setRow (W.heap.size+1) d1).drew _ d1 d2 _ _ hs1)
    have HCPA:=hcpA _ hr1 hr2
    have HCPB:=hcpB _ hs1 hs3
    have HO1:Hid (Only (fun k=>(Value.slice (some ⟨g,0,none⟩) n cap).ownBlock=some k) W ((W1.setRow (W.heap.size+1) d1).drew.setRow (W.heap.size+1) d2)):=Lib.hid (by
     have o1:Only (fun k=>k=g) W W1:=by
      rw [hW1]
      exact ((Only.alloc (fun k=>k=g) W (.cells cs.toArray 25)).drew).trans (Only.alloc (fun _=>False) _ _) (fun k _ h=>h) (fun k _ h=>h.elim)
     have o2:Only (fun k=>k=W.heap.size+1) W1 ((W1.setRow (W.heap.size+1) d1).drew.setRow (W.heap.size+1) d2):=(setRow_below d1).drew.trans (setRow_below d2) (fun k _ h=>h) (fun k _ h=>h)
     exact (o1.trans o2 (fun k _ h=>h) (fun k hk h=>by omega)).mono fun k _ h=>by rw [h];rfl)
    have mixed:Tryz.prog.follows .mixedOrders=true:=by kernel_rfl
    have w1:IntKind.i64.wrap ((i:Int)+1)=(i:Int)+1:=by rw [IntKind.wrap_i64];omega
    have m0:(0:Int)≤(i:Int)+1:=by omega
    have m1:¬ (cap=i):=by omega
    have m2:¬ (G=i):=by omega
    have m6:¬ (G=i+1):=by omega
    have m3:(i:Int)≤(n:Int)+1:=by omega
    have m4:(i:Int)+1≤(n:Int)+1:=by omega
    have m5:((i:Int)+1).toNat=i+1:=by omega
    clear hrow hcpA hcpB hd1 hd2 hd1l hd2l hci hdl htl hvl hcl hdo hd hil htk hROW hG hold hkk hik hW1
    go_enter Tryz.func128,Tryz.ntmps128
    go_wp2_with (first
     | (at_builtin;refine Lib.wpList_append_run _ rfl _ _ _ _ rfl _ _ rfl rfl _ _ (hrz _) ?_)
     | (at_builtin;refine wpList_copy_runI _ rfl _ _ 23 23 rfl _ _ rfl rfl (HCPA _ _) ?_))
    go_region_law_o (refine step_copy_runI rfl _ _ 23 23 rfl _ _ (by simp [Act.eval,Act.put]) (by simp [Act.eval,Act.put]) (HCPB _ _ _) ?_)
    go_wp2
    go_ret
    exact ⟨_,rfl,HFIN.out _ HS2.out,HO1.out,.inr ⟨_,rfl,Nat.le_succ _⟩⟩
end
section
theorem step_append_runI {P:Program} {ops:Array Oper} {o:Oper} {a:Act} {w:World} {K:Act→World→Prop} {Q:Exit→Act→World→Prop} {E:Prop}
  (hg:o.guard=none) (d x:Operand) (dT sT:TypeId) (hop:o.op=Op.call {callee:=Callee.builtin Builtin.append,args:=#[d,x],argTypes:=#[dT,sT]})
  (v u:Value) (hd:a.eval d=v) (hx:a.eval x=u) {v':Value} {w':World} (hr:(Builtin.append_ #[dT,sT] o.type #[v,u]).run P w=.ok v' w') (hK:K (a.put o.dst v') w') :
  if Region.wanted o (yielded ops a.tmps)=true then Oper.wp P o a w K Q else E:=by
 have hw:Region.wanted o (yielded ops a.tmps)=true:=by simp [Region.wanted,hg]
 rw [if_pos hw]
 unfold Oper.wp
 simp [execOp,hop,resolve,invoke,builtin,hd,hx,hr,Result.andThen]
 exact hK
def zsF:List Value:=[(.string ⟨#[]⟩),(.int .u8 0),(.string ⟨#[]⟩),(.slice none 0 0)]
theorem zero_file (W:World):(zeroValue 25).run Tryz.prog W=.ok (.agg #[(.string ⟨#[]⟩),(.int .u8 0),(.string ⟨#[]⟩),(.slice none 0 0)]) W:=by kernel_rfl
set_option maxHeartbeats 8000000 in
set_option maxRecDepth 100000 in
theorem delete_calls (g n cap:Nat) (inner:List Value) (i B:Nat) (W:World) (hrow:W.ownsRow B 25 4 (.slice (some ⟨g,0,none⟩) n cap) n inner) (hi:i<n) (h1i:∀ u∈inner,u.oneCell'=true) (hn:n≤274877906944) :
  Calls Tryz.prog 127 #[.slice (some ⟨g,0,none⟩) n cap,.int .i64 i,.int .i64 ((i:Int)+1)] W fun e w'=>e=.returned (.slice (some ⟨g,0,none⟩) (n - 1) cap)∧w'.ownsRow B 25 4 (.slice (some ⟨g,0,none⟩) (n - 1) cap) (n - 1) (inner.take (i * 4)++inner.drop ((i+1) * 4))∧Only (fun k=>k=g) W w':=by
 have hil:inner.length=n * 4:=hrow.1
 rcases hrow.2 with ⟨h0,_⟩ | ⟨g',cap',cur,h0,hgB,hg,hnc,hcm,hcz,htk⟩
 ·cases h0
 ·simp only [Value.slice.injEq,Option.some.injEq,Addr.mk.injEq,and_true,true_and] at h0
  obtain ⟨rfl,rfl⟩:=h0
  have hcl:cur.toList.length=cap * 4:=by rw [Array.length_toList,hcz]
  have hci:∀ j u,(inner.drop ((i+1) * 4))[j]? = some u→cur.toList[(i+1) * 4+j]? = some u:=fun j u hj=>by
   rw [List.getElem?_drop,← htk,List.getElem?_take] at hj
   split at hj
   ·exact hj
   ·cases hj
  have hdl:(inner.drop ((i+1) * 4)).length=(n - (i+1)) * 4:=by rw [List.length_drop,hil];omega
  have hdo:∀ u∈inner.drop ((i+1) * 4),u.oneCell'=true:=fun u hu=>h1i u (List.mem_of_mem_drop hu)
  have htl:inner.take (i * 4)=cur.toList.take (i * 4):=by rw [← htk,List.take_take,Nat.min_eq_left (by omega)]
  have hvl:(inner.take (i * 4)).length=i * 4:=by rw [List.length_take,hil];omega
  obtain ⟨c1,hc1⟩:∃ c1,(cur.toList.take (i * 4)++inner.drop ((i+1) * 4)++cur.toList.drop (i * 4+(inner.drop ((i+1) * 4)).length)).toArray=c1:=⟨_,rfl⟩
  have hc1l:c1.toList=(inner.take (i * 4)++inner.drop ((i+1) * 4))++cur.toList.drop ((n - 1) * 4):=by
   rw [← hc1,List.toList_toArray,hdl,htl,show i * 4+(n - (i+1)) * 4=(n - 1) * 4 by omega]
  have hpl:(inner.take (i * 4)++inner.drop ((i+1) * 4)).length=(n - 1) * 4:=by rw [List.length_append,hvl,hdl];omega
  have hc1s:c1.size=cap * 4:=by
   rw [← Array.length_toList,hc1l,List.length_append,hpl,List.length_drop,hcl]
   omega
  obtain ⟨c2,hc2⟩:∃ c2,(c1.toList.take ((i+(n - (i+1))) * 4)++zsF++c1.toList.drop ((i+(n - (i+1))) * 4+zsF.length)).toArray=c2:=⟨_,rfl⟩
  have hc2l:c2.toList=(inner.take (i * 4)++inner.drop ((i+1) * 4))++(zsF++c1.toList.drop (n * 4)):=by
   rw [← hc2,List.toList_toArray,show (i+(n - (i+1))) * 4=(n - 1) * 4 by omega,show (n - 1) * 4+zsF.length=n * 4 by show (n - 1) * 4+4=n * 4;omega,List.append_assoc]
   congr 1
   rw [hc1l,← hpl,List.take_left]
  have hc2s:c2.size=cap * 4:=by
   have hc1L:c1.toList.length=cap * 4:=by rw [Array.length_toList,hc1s]
   rw [← Array.length_toList,hc2l,List.length_append,hpl,List.length_append,List.length_drop,hc1L]
   show (n - 1) * 4+(4+(cap * 4 - n * 4))=cap * 4
   omega
  obtain ⟨i0,hi0,hz0,hzs,hzb⟩:=infoF
  obtain ⟨A,hA,hsrc⟩:∃ A:Addr,(if cap=i+1 then some (⟨g,0,none⟩:Addr) else some ⟨g,(i+1) * 4,none⟩)=some A∧(∀ t u,(inner.drop ((i+1) * 4))[t]? = some u→W.drew.cell? (A.add t)=some u):=by
   have hgd:W.drew.heap[g]? = some (.cells cur 25 (0,0)):=hg
   by_cases h:cap=i+1
   ·refine ⟨⟨g,0,none⟩,by simp [h],fun t u hu => ?_⟩
    have h0:(inner.drop ((i+1) * 4)).length=0:=by rw [hdl];omega
    rw [List.length_eq_zero_iff.1 h0] at hu
    simp at hu
   ·refine ⟨⟨g,(i+1) * 4,none⟩,by simp [h],fun t u hu => ?_⟩
    rw [Addr.add_lit]
    have h:=hci t u hu
    simpa [World.cell?,hgd] using h
  have hap:∀ ty,(Builtin.append_ #[23,23] ty #[.slice (some ⟨g,0,none⟩) i cap,.slice (some A) (n - (i+1)) (cap - (i+1))]).run Tryz.prog W.drew=.ok (.slice (some ⟨g,0,none⟩) (i+(n - (i+1))) cap) (W.drew.setRow g c1):=fun ty=>by
   have h:=run_append_room (P:=Tryz.prog) W.drew 23 ty 25 i0 Tryz.underlying23 hi0 g i cap cur hg A (n - (i+1)) (cap - (i+1)) (inner.drop ((i+1) * 4)) (by rw [hzs,hdl]) hsrc hdo (by omega) (by rw [hzs,hdl,hcz];omega)
   rw [hzs,hc1] at h
   exact h
  have hg1:(W.drew.setRow g c1).heap[g]? = some (.cells c1 25 (0,0)):=setRow_heap W.drew g cur c1 _ _ hg
  have hcle:∀ ty k,(Builtin.clear_ #[23] ty #[.slice (some ⟨g,(i+(n - (i+1))) * 4,none⟩) (n - (i+(n - (i+1)))) k]).run Tryz.prog (W.drew.setRow g c1)=.ok (.tuple #[]) ((W.drew.setRow g c1).setRow g c2):=fun ty k=>by
   have hst:=run_storeCells_at Tryz.prog g ((i+(n - (i+1))) * 4) 25 zsF 0 c1 _ hg1 (by rw [hc1s];show (i+(n - (i+1))) * 4+0+4≤cap * 4;omega) (by decide)
   simp only [Nat.add_zero] at hst
   rw [hc2] at hst
   rw [show n - (i+(n - (i+1)))=1 by omega]
   have hzc:(Builtin.zeroCells (Value.agg #[(.string ⟨#[]⟩),(.int .u8 0),(.string ⟨#[]⟩),(.slice none 0 0)]).cells 1).toList=zsF:=by kernel_rfl
   simp [Builtin.clear_,run_underlying Tryz.underlying23,zero_file,hzc,hst]
  have HFIN:Hid (∀ V:World,V.heap[g]? = some (.cells c2 25 (0,0))→V.ownsRow B 25 4 (.slice (some ⟨g,0,none⟩) (n - 1) cap) (n - 1) (inner.take (i * 4)++inner.drop ((i+1) * 4))):=Lib.hid fun V hV =>
   ⟨hpl,.inr ⟨g,cap,c2,rfl,hgB,hV,by omega,hcm,hc2s,by rw [hc2l,← hpl,List.take_left]⟩⟩
  have HS2:=Lib.hid (setRow_heap (W.drew.setRow g c1) g c1 c2 _ _ hg1)
  have HO1:Hid (Only (fun k=>k=g) W ((W.drew.setRow g c1).setRow g c2)):=Lib.hid ((((Only.refl (fun k=>k=g) W).drew).trans (setRow_below c1) (fun k _ h=>h) (fun k _ h=>h)).trans (setRow_below c2) (fun k _ h=>h) (fun k _ h=>h))
  have HAP:=hap
  obtain ⟨W1,hW1⟩:∃ W1,W1=W.drew.setRow g c1:=⟨_,rfl⟩
  rw [← hW1] at hcle HAP HS2 HO1
  have mixed:Tryz.prog.follows .mixedOrders=true:=by kernel_rfl
  have m1:(i:Int)≤(i:Int)+1:=by omega
  have m2:(i:Int)+1≤(n:Int):=by omega
  have m3:((i:Int)+1).toNat=i+1:=by omega
  have m4:(0:Int)≤(i:Int)+1:=by omega
  have m5:i≤cap:=by omega
  have m6:i+1≤cap:=by omega
  have m7:¬ ((i:Int)=(i:Int)+1):=by omega
  have m8:i+1≤n:=by omega
  have m9:(i:Int)≤(n:Int):=by omega
  clear hrow hap hc1 hc2 hc1l hc2l hci hdl htl hvl hcl hdo hpl hsrc hil htk hg1 hzs hzb hz0 hi0 hc1s hc2s hW1
  go_enter Tryz.func127,Tryz.ntmps127
  go_wp2_with fail
  go_region_law_o (refine step_append_runI rfl (.tmp 22) (.tmp 25) 23 23 rfl _ _ (by simp [Act.eval,Act.put]) (by simp [Act.eval,Act.put]) (HAP _) ?_)
  go_wp2
  go_ret
  have e1:i+(n - (i+1))=n - 1:=by omega
  rw [e1]
  exact ⟨rfl,HFIN.out _ HS2.out,HO1.out⟩
end
section
set_option maxHeartbeats 8000000 in
set_option maxRecDepth 100000 in
theorem copy_apart:∀ (n:Nat) (a:File) (A:Option Addr) (c:Nat) (w:World),a.bulk≤n→a.bulk≤1099511627776→FileK.C w A a.files.length a.files→a.files.length≤c →
  Calls Tryz.prog 21 #[fileV a A c] w fun e w'=>∃ v bl,e=.returned (.agg #[.string a.name,.int .u8 a.kind,.string a.data,v])∧FT w.heap.size a w' v bl∧bl.Nodup∧Below w.heap.size w w':=by
 intro n
 induction n with
 | zero=>intro a A c w h;have:=bulk_eq a;omega
 | succ n ih =>
 intro a A c w hn hbk hr hc
 have HI:=Lib.hid (fun (x:File) A c W h1 h2=>ih x A c W h1 h2)
 clear ih
 have hlen:=bulkL_len a.files
 have hbe:=bulk_eq a
 have HR:=Lib.hid hr
 clear hr
 have HN':∀ x∈a.files,x.bulk≤n∧x.bulk≤1099511627776:=fun x hx=>by have:=bulk_child hx;omega
 have hal':a.files.length≤1099511627776:=by omega
 obtain ⟨an,ak,ad,af⟩:=a
 change af.length≤c at hc
 change Hid (FileK.C w A af.length af) at HR
 have hal:af.length≤1099511627776:=hal'
 have HN:Hid (∀ x∈af,x.bulk≤n∧x.bulk≤1099511627776):=Lib.hid HN'
 clear hbe hlen hn hbk hal' HN'
 go_enter Tryz.func21,Tryz.ntmps21
 unfold fileV
 go_wp2_with fail
 go_loopw [16] (fun i wr=>∃ (k:Nat) (v:Value) (bl:List Nat),k≤af.length∧i=.int .i64 k∧Below w.heap.size w wr∧Hid (wr.heap[w.heap.size+2]? = some (.cells #[.string an,.int .u8 ak,.string ad,v] 25 (0,0)))
  ∧ Hid (wr.heap[w.heap.size+1]? = some (.cells zC 25 (0,0)))
  ∧ Hid (FT w.heap.size ⟨an,ak,ad,af.take k⟩ wr v bl)∧Hid (bl.Nodup∧∀ j∈bl,w.heap.size+3≤j)∧w.heap.size+3≤wr.heap.size) (fun i _=>af.length - (RowKit.intOf i).toNat)
 case atStart =>
  exact ⟨0,.slice none 0 0,[],by omega,rfl,((((Below.refl _ _).alloc (Nat.le_refl _) _).alloc (by simp) _).alloc (by simp;omega) _),Lib.hid (three_boxes w _ _ _ _ _ _),Lib.hid ((Below.heap_alloc _ _ _ (by simp)).trans (two_boxes w _ _ _ _).2),Lib.hid (by rw [FT_eq];exact .inl ⟨rfl,rfl,rfl⟩),Lib.hid ⟨List.nodup_nil,fun _ h=>(by cases h)⟩,by simp⟩
 case round =>
  obtain ⟨k,v,bl,hk,rfl,hb,HB2,HB1,HV,HN1,hsz⟩:=hrel
  by_cases hlt:k<af.length
  ·obtain ⟨aad,A',c',rfl,p1,p2,p3,p4,hc',hC'⟩:=file_at HR.out k hlt
   have mv:∀ {p:Addr} {v:Value},w.cell? p=some v→wr.cell? p=some v:=fun h=>(hb.cell (World.block_lt_of_cell? w _ h)).trans h
   have p1':=mv p1
   have p2':=mv p2
   have p3':=mv p3
   have p4':=mv p4
   have hmem:=HN.out _ (List.getElem_mem hlt)
   have htk:af.take (k+1)=af.take k++[af[k]]:=by rw [List.take_succ_eq_append_getElem hlt]
   have HTK:=Lib.hid htk
   have HC:=Lib.hid (fun W (h:Below wr.heap.size wr W)=>(show Calls Tryz.prog 21 #[.agg #[.string af[k].name,.int .u8 af[k].kind,.string af[k].data,.slice A' af[k].files.length c']] W _ from HI.out af[k] A' c' W hmem.1 hmem.2 (Kd.C_below hC' (hb.trans (h.mono hb.size))) hc'))
   clear p1 p2 p3 p4 mv hmem hC' htk HI
   generalize af[k]=x at *
   have g1:(k:Int)<(af.length:Int):=by omega
   have HBL:=Lib.hid (fun j (hj:j∈bl)=>(⟨HN1.out.2 j hj,(FT_lt _ _ _ _ _ HV.out j hj).1⟩:w.heap.size+3≤j∧j<wr.heap.size))
   have hf2:wr.frozen? ⟨w.heap.size+1+1,3,none⟩=false:=by simp [World.frozen?,HB2.out]
   have hx2:wr.cell? ⟨w.heap.size+1+1,3,none⟩=some v:=cell_of HB2.out rfl
   have hbx:=below_alloc (Below.refl wr.heap.size wr) (.cells (fc x A' c') 25)
   have hnb:=blk_new wr (.cells (fc x A' c') 25)
   have hsX:(wr.alloc (.cells (fc x A' c') 25)).heap.size=wr.heap.size+1:=by simp
   go_wp2_with fail
   clear p1' p2' p3' p4'
   generalize wr.alloc (.cells (fc x A' c') 25)=W1 at *
   have y0:W1.cell? ⟨wr.heap.size,0,none⟩=some (.string x.name):=cell_of hnb rfl
   have y1:W1.cell? ⟨wr.heap.size,1,none⟩=some (.int .u8 x.kind):=cell_of hnb rfl
   have y2:W1.cell? ⟨wr.heap.size,2,none⟩=some (.string x.data):=cell_of hnb rfl
   have y3:W1.cell? ⟨wr.heap.size,3,none⟩=some (.slice A' x.files.length c'):=cell_of hnb rfl
   have z3:=(hbx.cell (p:=⟨w.heap.size+1+1,3,none⟩) (by simp only;omega)).trans hx2
   have zf:=(hbx.frozen (p:=⟨w.heap.size+1+1,3,none⟩) (by simp only;omega)).trans hf2
   have HVX:=Lib.hid (FT_below HV.out hbx)
   have HNB:=Lib.hid hnb
   clear hx2 hf2 hnb
   refine start_ (n:=8) (S:=fun w'=>w'.cell? ⟨w.heap.size+1+1,3,none⟩=some v∧w'.cell? ⟨wr.heap.size,0,none⟩=some (.string x.name)∧w'.cell? ⟨wr.heap.size,1,none⟩=some (.int .u8 x.kind)∧w'.cell? ⟨wr.heap.size,2,none⟩=some (.string x.data)∧w'.cell? ⟨wr.heap.size,3,none⟩=some (.slice A' x.files.length c')) (ds:=[7]) #[false,false,false,false,false,false,false,false] (by kernel_rfl) rfl rfl ⟨z3,y0,y1,y2,y3⟩ (fun hHeld => ?_)
   refine pA 0 20 #[true,false,false,false,false,false,false,false] ?_
   refine tA 1 21 #[true,true,false,false,false,false,false,false] hHeld ?_ (hy:=by
    rintro w' ⟨s0,s1,s2,s3,s4⟩
    go_simp
    with_reducible rfl)
   refine tA 2 22 #[true,true,true,false,false,false,false,false] hHeld ?_ (hy:=by
    rintro w' ⟨s0,s1,s2,s3,s4⟩
    go_simp
    with_reducible rfl)
   refine eA 3 23 #[true,true,true,true,false,false,false,false] (fun K hK => ?_)
   refine gA Tryz.func21 #[.agg (fc x A' c')] ?_
   refine (HC.out _ (bdrew hbx)).mono ?_
   rintro e w1 ⟨v1,bx,rfl,ho1,hn1,hb1⟩
   refine ⟨_,rfl,?_⟩
   have hszd:W1.drew.heap.size=W1.heap.size:=rfl
   rw [hszd] at ho1 hb1
   have hb1':Below W1.heap.size W1 w1:=(bdrew (Below.refl W1.heap.size W1)).trans hb1
   have hb1r:Below wr.heap.size wr w1:=hbx.trans (hb1'.mono (by omega))
   have hbw1:=bstep hb hb.size hb1r
   have HV1:=Lib.hid (FT_below HVX.out hb1')
   have HBX:=Lib.hid (fun j (hj:j∈bx)=>FT_lt _ _ _ _ _ ho1 j hj)
   have HP1:=Lib.hid (FT_lower (B':=w.heap.size) (by omega) _ _ _ _ ho1)
   have hs1:=hb1'.size
   have HG2:=Lib.hid ((hb1r.block (w.heap.size+2) (by omega)).trans HB2.out)
   have HG1:=Lib.hid ((hb1r.block (w.heap.size+1) (by omega)).trans HB1.out)
   have HGX:=Lib.hid ((hb1'.block wr.heap.size (by omega)).trans HNB.out)
   obtain ⟨A1,c1,rfl,hc1,hC1⟩:=FT_reads _ _ _ _ _ HP1.out
   clear ho1 hC1 z3 zf hb1 hHeld y0 y1 y2 y3
   refine hK.out _ _ ⟨cell_of HG2.out rfl,cell_of HGX.out rfl,cell_of HGX.out rfl,cell_of HGX.out rfl,cell_of HGX.out rfl⟩ (fun hHeld => ?_)
   refine nA 23 ?_
   refine eA 4 24 #[true,true,true,true,true,false,false,false] (fun K hK => ?_)
   refine vA ?_
   have HG2a:=(Below.heap_alloc w1 (.cells (fc x A1 c1) 25) (w.heap.size+2) (by omega)).trans HG2.out
   have HGXa:=(Below.heap_alloc w1 (.cells (fc x A1 c1) 25) wr.heap.size (by omega)).trans HGX.out
   refine hK.out _ _ ⟨cell_of HG2a rfl,cell_of HGXa rfl,cell_of HGXa rfl,cell_of HGXa rfl,cell_of HGXa rfl⟩ (fun hHeld => ?_)
   refine nA 24 ?_
   refine eA 5 25 #[true,true,true,true,true,true,false,false] (fun K hK => ?_)
   obtain ⟨inner,bs,hown,hL,hbn,hbs,hvb⟩:=FT_own HV1.out HN1.out.1
   have hlt1:(File.mk an ak ad (af.take k)).files.length=k:=by show (af.take k).length=k;rw [List.length_take];omega
   rw [hlt1] at hown
   obtain ⟨i0,hi0,hz0,hzs,hzb⟩:=infoF
   obtain ⟨v2,w2,hrun,ho2,hg2,_,hat2⟩:=run_append_own_at (P:=Tryz.prog) (w1.alloc (.cells (fc x A1 c1) 25)) w.heap.size 23 23 25 i0 _ 4 64 Tryz.underlying23 hi0 hz0 hzs hzb (by decide) (by decide) v k inner (hown.alloc _) ⟨w1.heap.size,0,none⟩ 1 1 [.string x.name,.int .u8 x.kind,.string x.data,.slice A1 x.files.length c1] rfl
    (by simpa using World.news_of_block (cs:=(fc x A1 c1)) (t:=25) (fr:=(0,0)) (heap_alloc_new w1 (.cells (fc x A1 c1) 25))) (by intro u hu;simp only [List.mem_cons,List.not_mem_nil,or_false] at hu;rcases hu with rfl | rfl | rfl | rfl <;> rfl) (by simp only [maxLen];omega) (by omega) (by simp;omega)
   refine value_ (w1:=w2) (v:=v2) (by rfl) rfl ?_ ?_
   ·simp [execOp,resolve,invoke,builtin,Act.eval,hrun,Result.andThen]
   have hal:=(Below.refl w1.heap.size w1).alloc (Nat.le_refl _) (.cells (fc x A1 c1) 25)
   have hsz1:(w1.alloc (.cells (fc x A1 c1) 25)).heap.size=w1.heap.size+1:=by simp
   have hvlt:∀ j,v.ownBlock=some j→w.heap.size+3≤j∧j<wr.heap.size:=fun j hj=>HBL.out j (hvb j hj)
   have hb2:Below w.heap.size w w2:=(hbw1.trans (hal.mono (by omega))).grown hg2 (by omega) (fun j hj=>by have:=(hvlt j hj).1;omega)
   obtain ⟨b1,b2,hbb,hL2⟩:=LT_ins (B:=w.heap.size) (z:=x) (af.take k).length hL HP1.out
   obtain ⟨g2,hg2v⟩:∃ g2,v2.ownBlock=some g2:=by
    rcases ho2.2 with ⟨_,h0⟩ | ⟨g',cap,cur,hvv,_⟩
    ·omega
    ·exact ⟨g',by rw [hvv];rfl⟩
   have hor:v.ownBlock=some g2∨w1.heap.size<g2+1∧w1.heap.size≤g2:=by
    rcases hat2 with h2 | h2
    ·exact .inl (h2.symm.trans hg2v)
    ·rw [hg2v] at h2
     injection h2 with h2
     rw [h2,hsz1]
     exact .inr ⟨by omega,by omega⟩
   have hil:inner.length=(af.take k).length * 4:=by rw [hown.1,List.length_take];omega
   have hkeep:∀ j,j<w1.heap.size→v.ownBlock≠some j→w2.heap[j]? = w1.heap[j]? := fun j hj hn=>(hg2.block j (by omega) (fun e=>hn e.symm)).trans (hal.block j hj)
   have hrow2:w2.ownsRow w.heap.size 25 4 v2 (af.take (k+1)).length (inner++[.string x.name,.int .u8 x.kind,.string x.data,.slice A1 x.files.length c1]):=by
    rw [show (af.take (k+1)).length=k+1 by rw [List.length_take];omega]
    exact ho2
   have hL3:LT w.heap.size (af.take (k+1)) w2 (inner++[.string x.name,.int .u8 x.kind,.string x.data,.slice A1 x.files.length c1]) (b1++(bx++b2)):=by
    have h3:=LT_move _ _ _ w2 _ _ hL2 fun j hj=>by
     have hj2:j∈bs∨j∈bx:=by
      rw [hbb]
      simp only [List.mem_append] at hj ⊢
      rcases hj with h | h | h
      ·exact .inl (.inl h)
      ·exact .inr h
      ·exact .inl (.inr h)
     rcases hj2 with hj2 | hj2
     ·have h4:=HBL.out j (hbs j hj2).1
      exact hkeep j (by omega) (hbs j hj2).2
     ·have h4:=HBX.out j hj2
      exact hkeep j (by omega) (fun e=>by have:=(hvlt j e).2;omega)
    change LT w.heap.size ((af.take k).take (af.take k).length++x :: (af.take k).drop (af.take k).length) w2 _ _ at h3
    rw [← hil,List.take_length,List.take_length,List.drop_length,List.drop_length,List.append_nil] at h3
    rw [HTK.out]
    exact h3
   have HO2:Hid (FT w.heap.size (File.mk an ak ad (af.take (k+1))) w2 v2 (g2 :: (b1++(bx++b2)))):=Lib.hid (FT_row (d:=File.mk an ak ad (af.take (k+1))) hg2v hrow2 hL3)
   have HN2:Hid ((g2 :: (b1++(bx++b2))).Nodup∧∀ j∈g2 :: (b1++(bx++b2)),w.heap.size+3≤j):=Lib.hid (by
    have hg2n:g2 ∉ bs:=fun h=>by
     rcases hor with e | e
     ·exact (hbs g2 h).2 e
     ·have:=(HBL.out g2 (hbs g2 h).1).2
      omega
    have hg2x:g2 ∉ bx:=fun h=>by
     have h4:=HBX.out g2 h
     rcases hor with e | e
     ·have:=(hvlt g2 e).2
      omega
     ·omega
    have hd2:∀ j∈bx,j ∉ bs:=fun j hj hj2=>by
     have h4:=HBX.out j hj
     have:=(HBL.out j (hbs j hj2).1).2
     omega
    refine ⟨nodup_mid (b2:=[]) (by rw [List.nil_append,← hbb];exact hbn) hn1 (by rw [List.nil_append,← hbb];exact hd2) (by rw [List.nil_append,← hbb];exact hg2n) hg2x,fun j hj => ?_⟩
    have hj2:j=g2∨j∈bs∨j∈bx:=by
     rw [hbb]
     simp only [List.mem_append,List.mem_cons] at hj ⊢
     rcases hj with h | h | h | h
     ·exact .inl h
     ·exact .inr (.inl (.inl h))
     ·exact .inr (.inr h)
     ·exact .inr (.inl (.inr h))
    rcases hj2 with rfl | hj2 | hj2
    ·rcases hor with e | e
     ·exact (hvlt _ e).1
     ·omega
    ·exact (HBL.out j (hbs j hj2).1).1
    ·have:=HBX.out j hj2
     omega)
   have hrow:∀ j,v.ownBlock=some j→w.heap.size+3≤j:=fun j hj=>(hvlt j hj).1
   have HK2:=hg2.block (w.heap.size+2) (by omega) (fun e=>by have:=hrow _ e.symm;omega)
   have HK1:=hg2.block (w.heap.size+1) (by omega) (fun e=>by have:=hrow _ e.symm;omega)
   have HH2:=Lib.hid (HK2.trans HG2a)
   have HH1:=Lib.hid (HK1.trans ((Below.heap_alloc w1 _ _ (by omega)).trans HG1.out))
   have HHX:=Lib.hid ((hg2.block wr.heap.size (by omega) (fun e=>by have:=hvlt _ e.symm;omega)).trans HGXa)
   have hg2s:=hg2.size
   have hk1:(af.take (k+1)).length=k+1:=by rw [List.length_take];omega
   obtain ⟨A2,c2,rfl,hc2,hC2⟩:=FT_reads _ _ _ _ _ HO2.out
   change Hid (FT _ _ w2 (.slice A2 (af.take (k+1)).length c2) _) at HO2
   change (af.take (k+1)).length≤c2 at hc2
   dsimp only at hrun ⊢
   rw [hk1] at HO2 hc2 ⊢
   clear ho2 hC2 hHeld HK1 HK2 hat2 hrow hg2 hrun hL2 hL hown hbs hvb hbn hbb hor hg2v hkeep hvlt hal hi0 hz0 hzs hzb hil hlt1 hrow2 hL3
   refine hK.out _ _ ⟨cell_of HH2.out rfl,cell_of HHX.out rfl,cell_of HHX.out rfl,cell_of HHX.out rfl,cell_of HHX.out rfl⟩ (fun hHeld => ?_)
   refine nA 25 ?_
   refine pA 6 26 #[true,true,true,true,true,true,true,false] ?_
   refine last_ (i:=7) (N:=none) #[true,true,true,true,true,true,true,true] rfl rfl (by kernel_rfl) (by decide) (fun K hK => ?_)
   have hcs:w2.cell? ⟨w.heap.size+1+1,3,none⟩=some v:=cell_of HH2.out rfl
   have hfs:w2.frozen? ⟨w.heap.size+1+1,3,none⟩=false:=by simp [World.frozen?,HH2.out]
   refine sA ?_
   refine hK.out _ _ ?_
   refine done_ (by kernel_rfl) ?_
   go_wp2_with fail
   go_roundw
   case rel =>
    exact ⟨k+1,_,_,by omega,by go_num,hb2.setCell (p:=⟨w.heap.size+1+1,3,none⟩) (by simp only;omega) _,Lib.hid (blk_put (cs:=#[.string an,.int .u8 ak,.string ad,v]) HH2.out 3 _ rfl),Lib.hid ((Below.heap_setCell _ _ _ _ (by simp only;omega)).trans HH1.out),Lib.hid (FT_move _ _ _ _ _ _ HO2.out fun j hj=>Below.heap_setCell _ _ _ _ (by have:=HN2.out.2 j hj;simp only;omega)),HN2,by simp [World.setCell];omega⟩
   case measure=>simp [RowKit.intOf];omega
  ·obtain rfl:k=af.length:=by omega
   have e0:wr.cell? ⟨w.heap.size+1+1,0,none⟩=some (.string an):=cell_of HB2.out rfl
   have e1:wr.cell? ⟨w.heap.size+1+1,1,none⟩=some (.int .u8 ak):=cell_of HB2.out rfl
   have e2:wr.cell? ⟨w.heap.size+1+1,2,none⟩=some (.string ad):=cell_of HB2.out rfl
   have e3:wr.cell? ⟨w.heap.size+1+1,3,none⟩=some v:=cell_of HB2.out rfl
   have d0:wr.cell? ⟨w.heap.size+1,0,none⟩=some (.string ⟨#[]⟩):=cell_of HB1.out rfl
   have d1:wr.cell? ⟨w.heap.size+1,1,none⟩=some (.int .u8 0):=cell_of HB1.out rfl
   have d2:wr.cell? ⟨w.heap.size+1,2,none⟩=some (.string ⟨#[]⟩):=cell_of HB1.out rfl
   have d3:wr.cell? ⟨w.heap.size+1,3,none⟩=some (.slice none 0 0):=cell_of HB1.out rfl
   have f0:∀ j,wr.frozen? ⟨w.heap.size+1,j,none⟩=false:=fun j=>by simp [World.frozen?,HB1.out]
   have f00:=f0 0
   have f01:=f0 1
   have f02:=f0 2
   have f03:=f0 3
   rw [List.take_length] at HV
   obtain ⟨A2,c2,rfl,hc2,hC2⟩:=FT_reads _ _ _ _ _ HV.out
   dsimp only at hc2 e3 ⊢
   change Hid (FT _ _ wr (.slice A2 af.length c2) _) at HV
   clear hlt f0 hC2 HI
   have hbz:Below w.heap.size w ((((wr.setCell ⟨w.heap.size+1,0,none⟩ (.string an)).setCell ⟨w.heap.size+1,1,none⟩ (.int .u8 ak)).setCell ⟨w.heap.size+1,2,none⟩ (.string ad)).setCell ⟨w.heap.size+1,3,none⟩ (.slice A2 af.length c2)) :=
    (((hb.setCell (by simp only;omega) _).setCell (by simp only;omega) _).setCell (by simp only;omega) _).setCell (by simp only;omega) _
   have hVz:FT w.heap.size ⟨an,ak,ad,af⟩ ((((wr.setCell ⟨w.heap.size+1,0,none⟩ (.string an)).setCell ⟨w.heap.size+1,1,none⟩ (.int .u8 ak)).setCell ⟨w.heap.size+1,2,none⟩ (.string ad)).setCell ⟨w.heap.size+1,3,none⟩ (.slice A2 af.length c2)) (.slice A2 af.length c2) bl :=
    FT_move _ _ _ _ _ _ HV.out fun j hj=>by
     have hj3:=HN1.out.2 j hj
     exact (Below.heap_setCell _ _ _ _ (by simp only;omega)).trans ((Below.heap_setCell _ _ _ _ (by simp only;omega)).trans ((Below.heap_setCell _ _ _ _ (by simp only;omega)).trans (Below.heap_setCell _ _ _ _ (by simp only;omega))))
   have HBZ:=Lib.hid hbz
   have HVZ:=Lib.hid hVz
   clear hbz hVz
   have HH:Hid (((((wr.setCell ⟨w.heap.size+1,0,none⟩ (.string an)).setCell ⟨w.heap.size+1,1,none⟩ (.int .u8 ak)).setCell ⟨w.heap.size+1,2,none⟩ (.string ad)).setCell ⟨w.heap.size+1,3,none⟩ (.slice A2 af.length c2)).heap[w.heap.size+1]? = some (.cells #[.string an,.int .u8 ak,.string ad,.slice A2 af.length c2] 25 (0,0))) :=
    Lib.hid (blk_put (cs:=#[.string an,.int .u8 ak,.string ad,.slice none 0 0]) (blk_put (cs:=#[.string an,.int .u8 ak,.string ⟨#[]⟩,.slice none 0 0]) (blk_put (cs:=#[.string an,.int .u8 0,.string ⟨#[]⟩,.slice none 0 0]) (blk_put (cs:=zC) HB1.out 0 _ rfl) 1 _ rfl) 2 _ rfl) 3 _ rfl)
   go_wp2_with fail
   refine bodyPost_ret (results_cell_row rfl _ _ (w.heap.size+1) 25 #[.string an,.int .u8 ak,.string ad,.slice A2 af.length c2] (0,0) _ rfl HH.out Tryz.underlying25 rfl (by kernel_rfl)) rfl ?_
   exact ⟨_,rfl,_,HVZ.out,HN1.out.1,HBZ.out⟩
end
section
def insF (l:List File) (x:File):List File:=if foundB l x.name=true then l.take (lowB l x.name)++x :: l.drop (lowB l x.name+1) else l.take (lowB l x.name)++x :: l.drop (lowB l x.name)
def delF (l:List File) (n:ByteArray):List File:=l.take (lowB l n)++l.drop (lowB l n+1)
def nameF (f:File) (n:ByteArray):File:={f with name:=n}
def putR (t:File) (q:List ByteArray) (n:ByteArray) (f:File):File×Int :=
 if rightT t=true then
  match goP t q with
  | (_,some d)=>if d.kind=1 then (if rightT (putP t q {d with files:=insF d.files (nameF f n)})=true then (putP t q {d with files:=insF d.files (nameF f n)},0) else (zeroF,30)) else (zeroF,32)
  | (k,none)=>(zeroF,k)
 else (zeroF,30)
def dropR (t:File) (q:List ByteArray) (n:ByteArray):File×Int :=
 if rightT t=true then
  match goP t (q++[n]) with
  | (_,some _)=>(match goP t q with
   | (_,some d)=>(putP t q {d with files:=delF d.files n},0)
   | (k,none)=>(zeroF,k))
  | (k,none)=>(zeroF,k)
 else (zeroF,30)
theorem bulkL_nil:bulkL []=0:=by simp [bulkL]
theorem bulkL_app:∀ (a b:List File),bulkL (a++b)=bulkL a+bulkL b
 | [],b=>by simp [bulkL_nil]
 | x :: a,b=>by rw [List.cons_append,bulkL_cons,bulkL_cons,bulkL_app a b];omega
theorem bulkL_cut (l:List File) (i:Nat):bulkL (l.take i)+bulkL (l.drop i)=bulkL l:=by rw [← bulkL_app,List.take_append_drop]
theorem bulkL_drop1 (l:List File) (i:Nat):bulkL (l.drop (i+1))≤bulkL (l.drop i):=by
 have h:=bulkL_cut (l.drop i) 1
 rw [List.drop_drop] at h
 omega
theorem bulk_ins (l:List File) (x:File):bulkL (insF l x)≤bulkL l+x.bulk:=by
 have h1:=bulkL_cut l (lowB l x.name)
 have h2:=bulkL_drop1 l (lowB l x.name)
 unfold insF
 split <;> rw [bulkL_app,bulkL_cons] <;> omega
theorem bulk_del (l:List File) (n:ByteArray):bulkL (delF l n)≤bulkL l:=by
 have h1:=bulkL_cut l (lowB l n)
 have h2:=bulkL_drop1 l (lowB l n)
 unfold delF
 rw [bulkL_app]
 omega
theorem bulk_with (d:File) (l:List File):({d with files:=l}:File).bulk+bulkL d.files=d.bulk+bulkL l:=by
 rw [bulk_eq,bulk_eq d]
 simp only
 omega
theorem bulk_putX {t d x:File} {q:List ByteArray} {k:Int} (h:goP t q=(k,some d)):(putP t q {d with files:=insF d.files x}).bulk≤t.bulk+x.bulk:=by
 have h1:=bulk_put q t {d with files:=insF d.files x} d k h
 have h2:=bulk_with d (insF d.files x)
 have h3:=bulk_ins d.files x
 omega
theorem bulk_dropX {t d:File} {q:List ByteArray} {n:ByteArray} {k:Int} (h:goP t q=(k,some d)):(putP t q {d with files:=delF d.files n}).bulk≤t.bulk:=by
 have h1:=bulk_put q t {d with files:=delF d.files n} d k h
 have h2:=bulk_with d (delF d.files n)
 have h3:=bulk_del d.files n
 omega
theorem bulk_name (f:File) (n:ByteArray):(nameF f n).bulk+f.name.size=f.bulk+n.size:=by
 rw [bulk_eq,bulk_eq f]
 simp only [nameF]
 omega
theorem set4_mid:∀ (i:Nat) (inner:List Value) (a b c d:Value),(i+1) * 4≤inner.length→((((inner.set (i * 4) a).set (i * 4+1) b).set (i * 4+2) c).set (i * 4+3) d)=inner.take (i * 4)++[a,b,c,d]++inner.drop ((i+1) * 4)
 | 0,x0 :: x1 :: x2 :: x3 :: r,a,b,c,d,_=>by simp
 | 0,[],_,_,_,_,h=>by simp at h
 | 0,[_],_,_,_,_,h=>by simp at h
 | 0,[_,_],_,_,_,_,h=>by simp at h
 | 0,[_,_,_],_,_,_,_,h=>by simp at h
 | i+1,x0 :: x1 :: x2 :: x3 :: r,a,b,c,d,h=>by
  have ih:=set4_mid i r a b c d (by simp at h;omega)
  rw [show (i+1) * 4=i * 4+1+1+1+1 by omega,show (i+1+1) * 4=(i+1) * 4+1+1+1+1 by omega]
  simp only [List.set_cons_succ,List.take_succ_cons,List.drop_succ_cons,List.cons_append]
  rw [ih]
 | i+1,[],_,_,_,_,h=>by simp at h
 | i+1,[_],_,_,_,_,h=>by simp at h;omega
 | i+1,[_,_],_,_,_,_,h=>by simp at h;omega
 | i+1,[_,_,_],_,_,_,_,h=>by simp at h;omega
end
end Go.Proofs.YthlcjjhfkldmhaaGreatDoor.G
end
