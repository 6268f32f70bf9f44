import Derived.Test.YtdnhjnlhmfajnaaGreatDoorTDir
import Derived.Test.YtdnhjnlhmfajnaaGreatDoorTRead1
import Derived.Test.YtdnhjnlhmfajnaaGreatDoorTLine
import Derived.Test.YtdnhjnlhmfajnaaGreatDoorTRight
set_option linter.unusedVariables false
set_option linter.unusedSimpArgs false
section
namespace Go.Proofs.YtdnhjnlhmfajnaaGreatDoor.G
open Go.RowKit Go.Lib Go.Proofs.YtdnhjnlhmfajnaaGreatDoorW.PrintWords Go.Proofs.YtdnhjnlhmfajnaaGreatDoorW.PrintLast
set_option linter.unusedVariables false
def skipB (x:ByteArray):Bool:=x.toList.isEmpty || Lib.hasPrefix x.data.toList [35]
def pushF (d z:File):File:={d with files:=d.files++[z]}
def addP (t:File) (p:List ByteArray) (d z:File):File:=putP t p.dropLast (pushF d z)
def newF (p:List ByteArray) (r:RowR):File:=⟨p.getLastD ⟨#[]⟩,r.kind,r.data,[]⟩
def lineR (t:File) (last:List ByteArray) (text:ByteArray):Int×File×List ByteArray :=
 if (readR text).rule=0 then
  (if (splitR (readR text).path).2=true then
   (if last≠[]∧0≤cmpP last (splitR (readR text).path).1 then (4,t,last)
   else match dirO t (splitR (readR text).path).1 with
    | none=>(5,t,last)
    | some d=>if (readR text).kind=3∧targetB (readR text).data=false then (6,t,last) else (0,addP t (splitR (readR text).path).1 d (newF (splitR (readR text).path).1 (readR text)),(splitR (readR text).path).1))
  else (3,t,last))
 else ((readR text).rule,t,last)
def readAll:List (ByteArray×Bool)→Nat→File→List ByteArray→File×Int×Nat×Int
 | [],_,t,_=>(t,0,0,0)
 | l :: ls,i,t,last=>if skipB l.1 then readAll ls (i+1) t last else if (lineR t last l.1).1=0 then readAll ls (i+1) (lineR t last l.1).2.1 (lineR t last l.1).2.2 else (zeroF,51,i+1,(lineR t last l.1).1)
def rootF:File:=⟨⟨#[]⟩,1,⟨#[]⟩,[]⟩
def treeR (s:ByteArray):File×Int×Nat×Int:=readAll (linesP s.data.toList) 0 rootF []
theorem cb_less:∀ a b:List UInt8,compareBytes a b<0↔a<b
 | [],[]=>by simp [compareBytes]
 | [],_ :: _=>by simp [compareBytes]
 | _ :: _,[]=>by simp [compareBytes]
 | a :: ar,b :: bs=>by
  have ih:=cb_less ar bs
  rw [compareBytes,List.cons_lt_cons_iff]
  by_cases h1:a<b
  ·simp [h1]
  ·by_cases h2:b<a
   ·simp only [h1,h2,if_true,if_false,false_or]
    constructor
    ·intro h;omega
    ·rintro ⟨rfl,_⟩;exact absurd h2 h1
   ·have he:a=b:=by
     have h3:=UInt8.not_lt.1 h1
     have h4:=UInt8.not_lt.1 h2
     exact UInt8.le_antisymm h4 h3
    subst he
    simp only [h1,if_false,false_or,true_and]
    exact ih
theorem less_cb {x y:ByteArray}:lessB x y=true↔compareBytes x.data.toList y.data.toList<0:=by
 unfold lessB
 rw [bytesLess_eq,decide_eq_true_eq,Lib.toList_data,Lib.toList_data,cb_less]
theorem cmp_last (a b:ByteArray):∀ q:List ByteArray,cmpP (q++[a]) (q++[b])<0→lessB a b=true
 | [],h=>by
  rw [less_cb]
  simp only [List.nil_append,cmpP] at h
  split at h
  ·omega
  ·exact h
 | x :: q,h=>by
  simp only [List.cons_append,cmpP,if_true] at h
  exact cmp_last a b q h
theorem preF_child {f x:File} {p:List ByteArray} (h:x∈f.files):(p++[x.name],x)∈preF p f:=by
 rw [preF_eq]
 generalize f.files=l at h
 induction l with
 | nil=>cases h
 | cons y l ih =>
  rw [preL]
  rcases List.mem_cons.1 h with rfl | h
  ·exact List.mem_cons_self
  ·exact List.mem_cons_of_mem _ (List.mem_append_right _ (ih h))
theorem preL_mem {p:List ByteArray} {y:List ByteArray×File}:∀ {l:List File},y∈preL p l↔∃ x∈l,y=(p++[x.name],x)∨y∈preF (p++[x.name]) x
 | []=>by simp [preL]
 | x :: l=>by
  rw [preL,List.mem_cons,List.mem_append,preL_mem (l:=l)]
  simp only [List.mem_cons]
  constructor
  ·rintro (h | h | ⟨z,hz,h⟩)
   ·exact ⟨x,.inl rfl,.inl h⟩
   ·exact ⟨x,.inl rfl,.inr h⟩
   ·exact ⟨z,.inr hz,h⟩
  ·rintro ⟨z,rfl | hz,h⟩
   ·exact h.elim .inl fun h=>.inr (.inl h)
   ·exact .inr (.inr ⟨z,hz,h⟩)
theorem preF_mem {p:List ByteArray} {y:List ByteArray×File} {f:File}:y∈preF p f↔∃ x∈f.files,y=(p++[x.name],x)∨y∈preF (p++[x.name]) x:=by
 rw [preF_eq]
 exact preL_mem
theorem goP_step {f:File} {n:ByteArray} {q:List ByteArray} {d:File} {k:Int} (h:goP f (n :: q)=(k,some d)):∃ x,f.files[lowB f.files n]? = some x∧x.name=n∧goP x q=(k,some d):=by
 rw [goP] at h
 split at h
 ·split at h
  ·rename_i x hx
   split at h
   ·rename_i he
    exact ⟨x,hx,toList_inj.1 (eq_of_beq he),h⟩
   ·cases h
  ·cases h
 ·cases h
theorem preF_go:∀ (q:List ByteArray) (f d:File) (p:List ByteArray) (k:Int) (y:List ByteArray×File),goP f q=(k,some d)→y∈preF (p++q) d→y∈preF p f
 | [],f,d,p,k,y,h,hy=>by
  rw [goP] at h
  injection h with _ h
  injection h with h
  subst h
  simpa using hy
 | n :: q,f,d,p,k,y,h,hy=>by
  obtain ⟨x,hx,hn,hg⟩:=goP_step h
  have h1:=preF_go q x d (p++[n]) k y hg (by simpa using hy)
  exact preF_mem.2 ⟨x,List.mem_of_getElem? hx,.inr (by rw [hn];exact h1)⟩
theorem putP_name:∀ (q:List ByteArray) (f y d:File) (k:Int),goP f q=(k,some d)→y.name=d.name→(putP f q y).name=f.name
 | [],f,y,d,k,h,hy=>by
  rw [goP] at h
  injection h with _ h
  injection h with h
  subst h
  rw [putP]
  exact hy
 | n :: q,f,y,d,k,h,hy=>(putP_keep f n q y).1
theorem sorted_set {l:List File} {i:Nat} {x x':File} (h:SortedN l) (hx:l[i]? = some x) (hn:x'.name=x.name):SortedN (l.set i x'):=by
 unfold SortedN at *
 rw [List.pairwise_iff_getElem] at h ⊢
 intro a b ha hb hab
 have hl:=(List.getElem?_eq_some_iff.1 hx)
 obtain ⟨hi,hxe⟩:=hl
 simp only [List.length_set] at ha hb
 have hnm:∀ (c:Nat) (hc:c<l.length),((l.set i x')[c]'(by simpa using hc)).name=l[c].name:=fun c hc=>by
  rw [List.getElem_set]
  split
  ·rename_i e
   subst e
   rw [hn,hxe]
  ·rfl
 rw [hnm a ha,hnm b hb]
 exact h a b ha hb hab
theorem sort_put:∀ (q:List ByteArray) (f y d:File) (k:Int),goP f q=(k,some d)→y.name=d.name→SortF f→SortF y→SortF (putP f q y)
 | [],f,y,d,k,h,hn,hs,hy=>by rw [putP];exact hy
 | n :: q,f,y,d,k,h,hn,hs,hy=>by
  obtain ⟨x,hx,hxn,hg⟩:=goP_step h
  rw [SortF_eq] at hs
  have ih:=sort_put q x y d k hg hn (SortL_mem.1 hs.2 x (List.mem_of_getElem? hx)) hy
  rw [putP,hx]
  simp only
  rw [SortF_eq]
  refine ⟨sorted_set hs.1 hx (putP_name q x y d k hg hn),SortL_mem.2 fun z hz => ?_⟩
  rcases List.mem_or_eq_of_mem_set hz with hz | rfl
  ·exact SortL_mem.1 hs.2 z hz
  ·exact ih
theorem pre_put:∀ (q:List ByteArray) (f y d:File) (k:Int) (p:List ByteArray) (e:List ByteArray×File),goP f q=(k,some d)→y.name=d.name→e∈preF p (putP f q y)→(∃ e0∈preF p f,e0.1=e.1)∨e∈preF (p++q) y
 | [],f,y,d,k,p,e,h,hn,he=>by rw [putP] at he;exact .inr (by simpa using he)
 | n :: q,f,y,d,k,p,e,h,hn,he=>by
  obtain ⟨x,hx,hxn,hg⟩:=goP_step h
  rw [putP,hx] at he
  simp only at he
  obtain ⟨z,hz,hez⟩:=preF_mem.1 he
  rcases List.mem_or_eq_of_mem_set hz with hz | rfl
  ·exact .inl ⟨e,preF_mem.2 ⟨z,hz,hez⟩,rfl⟩
  ·have hpn:=putP_name q x y d k hg hn
   rcases hez with rfl | hez
   ·exact .inl ⟨(p++[x.name],x),preF_child (List.mem_of_getElem? hx),by simp only [hpn]⟩
   ·rw [hpn] at hez
    rcases pre_put q x y d k _ e hg hn hez with ⟨e0,h0,h1⟩ | h0
    ·exact .inl ⟨e0,preF_mem.2 ⟨x,List.mem_of_getElem? hx,.inr h0⟩,h1⟩
    ·exact .inr (by rw [hxn] at h0;simpa using h0)
theorem bulkL_set {l:List File} {i:Nat} {x x':File} (hx:l[i]? = some x):bulkL (l.set i x')+x.bulk=bulkL l+x'.bulk:=by
 induction l generalizing i with
 | nil=>simp at hx
 | cons z l ih =>
  cases i with
  | zero =>
   obtain rfl:z=x:=by simpa using hx
   simp only [List.set_cons_zero,bulkL_cons]
   omega
  | succ i =>
   have:=ih (i:=i) (by simpa using hx)
   simp only [List.set_cons_succ,bulkL_cons]
   omega
theorem bulk_put:∀ (q:List ByteArray) (f y d:File) (k:Int),goP f q=(k,some d)→(putP f q y).bulk+d.bulk=f.bulk+y.bulk
 | [],f,y,d,k,h=>by
  rw [goP] at h
  injection h with _ h
  injection h with h
  subst h
  rw [putP]
  omega
 | n :: q,f,y,d,k,h=>by
  obtain ⟨x,hx,hxn,hg⟩:=goP_step h
  have ih:=bulk_put q x y d k hg
  have h1:=bulkL_set (x':=putP x q y) hx
  have e1:=bulk_eq f
  have e2:=bulk_eq (putP f (n :: q) y)
  have e3:(putP f (n :: q) y).files=f.files.set (lowB f.files n) (putP x q y):=by rw [putP,hx]
  obtain ⟨k1,k2,k3⟩:=putP_keep f n q y
  rw [e3,k1,k3] at e2
  omega
theorem push_bulk (d z:File):(pushF d z).bulk=d.bulk+z.bulk:=by
 have h1:=bulk_eq d
 have h2:=bulk_eq (pushF d z)
 have h3:bulkL (d.files++[z])=bulkL d.files+z.bulk:=by simp [bulkL]
 simp only [pushF] at h2 h3 ⊢
 omega
structure Good (t:File) (last:List ByteArray):Prop where
 sort:SortF t
 below:∀ y∈preF [] t,cmpP y.1 last≤0
 nil:last=[]→t.files=[]
 name:t.name=⟨#[]⟩
 kind:t.kind=1
 data:t.data=⟨#[]⟩
theorem good_root:Good rootF []:=⟨by rw [SortF_eq];exact ⟨List.Pairwise.nil,trivial⟩,fun y hy=>by rw [preF_eq] at hy;simp [rootF,preL] at hy,fun _=>rfl,rfl,rfl,rfl⟩
theorem good_add {t:File} {last p:List ByteArray} {d:File} {k:Int} {z:File} (h:Good t last) (hp:p≠[]) (hg:goP t p.dropLast=(k,some d)) (hz:z.files=[]) (hn:z.name=p.getLastD ⟨#[]⟩) (hc:¬ (last≠[]∧0≤cmpP last p)):Good (addP t p d z) p:=by
 have hpq:p=p.dropLast++[z.name]:=by
  rw [hn]
  conv=>lhs;rw [← List.dropLast_concat_getLast hp]
  congr 2
  cases p with
  | nil=>exact absurd rfl hp
  | cons _ _=>rfl
 obtain ⟨q,hq⟩:∃ q,p.dropLast=q:=⟨_,rfl⟩
 rw [hq] at hpq hg
 have hdir:∀ x∈d.files,(q++[x.name],x)∈preF [] t:=fun x hx=>preF_go q t d [] k _ hg (by simpa using preF_child (p:=q) hx)
 have hless:∀ y∈preF [] t,cmpP y.1 p<0:=fun y hy=>by
  have h1:=h.below y hy
  have hl:last≠[]:=fun e=>by
   have:=h.nil e
   rw [preF_eq,this] at hy
   simp [preL] at hy
  have h2:cmpP last p<0:=by
   rcases Int.lt_or_le (cmpP last p) 0 with h3 | h3
   ·exact h3
   ·exact absurd ⟨hl,h3⟩ hc
  have h3:=cmp_trans h1 (by omega:cmpP last p≤0)
  rcases Int.lt_or_eq_of_le h3 with h4 | h4
  ·exact h4
  ·have h5:=cmp_zero.1 h4
   rw [h5] at h1
   have h6:=cmp_anti last p
   omega
 have hch:∀ x∈d.files,lessB x.name z.name=true:=fun x hx=>by
  have h1:=hless _ (hdir x hx)
  simp only at h1
  rw [hpq] at h1
  exact cmp_last _ _ q h1
 have hds:SortF d:=by
  have:∀ (q:List ByteArray) (f:File),SortF f→goP f q=(k,some d)→SortF d:=by
   intro q
   induction q with
   | nil=>intro f hf hg;rw [goP] at hg;injection hg with _ hg;injection hg with hg;subst hg;exact hf
   | cons n q ih =>
    intro f hf hg
    obtain ⟨x,hx,_,hg⟩:=goP_step hg
    rw [SortF_eq] at hf
    exact ih x (SortL_mem.1 hf.2 x (List.mem_of_getElem? hx)) hg
  exact this q t h.sort hg
 have hps:SortF (pushF d z):=by
  rw [SortF_eq] at hds ⊢
  refine ⟨?_,SortL_mem.2 fun x hx => ?_⟩
  ·show SortedN (d.files++[z])
   unfold SortedN
   rw [List.pairwise_append]
   exact ⟨hds.1,List.pairwise_singleton _ _,fun a ha b hb=>by rw [List.mem_singleton.1 hb];exact hch a ha⟩
  ·rcases List.mem_append.1 (show x∈d.files++[z] from hx) with hx | hx
   ·exact SortL_mem.1 hds.2 x hx
   ·rw [List.mem_singleton.1 hx,SortF_eq,hz]
    exact ⟨List.Pairwise.nil,trivial⟩
 have hkeep:(addP t p d z).name=t.name∧(addP t p d z).kind=t.kind∧(addP t p d z).data=t.data:=by
  rw [addP,hq]
  cases q with
  | nil=>rw [goP] at hg;injection hg with _ hg;injection hg with hg;subst hg;rw [putP];exact ⟨rfl,rfl,rfl⟩
  | cons n q=>exact putP_keep _ _ _ _
 refine ⟨by rw [addP,hq];exact sort_put q t _ d k hg rfl h.sort hps,fun y hy => ?_,fun e=>absurd e hp,hkeep.1.trans h.name,hkeep.2.1.trans h.kind,hkeep.2.2.trans h.data⟩
 rw [addP,hq] at hy
 rcases pre_put q t (pushF d z) d k [] y hg rfl hy with ⟨e0,h0,h1⟩ | h0
 ·rw [← h1]
  have:=hless e0 h0
  omega
 ·obtain ⟨x,hx,hyx⟩:=preF_mem.1 h0
  rcases List.mem_append.1 (show x∈d.files++[z] from hx) with hx | hx
  ·have h1:y∈preF [] t:=preF_go q t d [] k y hg (preF_mem.2 ⟨x,hx,hyx⟩)
   have:=hless y h1
   omega
  ·have hxz:=List.mem_singleton.1 hx
   rw [hxz] at hyx
   rcases hyx with hye | hyx
   ·rw [hye]
    simp only [List.nil_append]
    rw [← hpq]
    have:=cmp_zero.2 (rfl:p=p)
    omega
   ·rw [preF_eq,hz] at hyx
    simp [preL] at hyx
end Go.Proofs.YtdnhjnlhmfajnaaGreatDoor.G
end
section
namespace Go.Proofs.YtdnhjnlhmfajnaaGreatDoor.G
open Go.RowKit Go.Lib Go.Proofs.YtdnhjnlhmfajnaaGreatDoorW.PrintWords Go.Proofs.YtdnhjnlhmfajnaaGreatDoorW.PrintLast
set_option linter.unusedVariables false
structure Held (tb B:Nat) (t:File) (v:Value) (bl:List Nat) (w:World):Prop where
 box:w.heap[tb]? = some (.cells #[.string t.name,.int .u8 t.kind,.string t.data,v] 25 (0,0))
 ft:FT B t w v bl
 nd:bl.Nodup
 lt:tb<B
theorem Held.below {tb B:Nat} {t:File} {v:Value} {bl:List Nat} {w w':World} (h:Held tb B t v bl w) (hb:Below w.heap.size w w'):Held tb B t v bl w' :=
 ⟨(hb.block tb (blk_lt h.box)).trans h.box,FT_move B t w w' v bl h.ft fun k hk=>hb.block k (FT_lt B t w v bl h.ft k hk).1,h.nd,h.lt⟩
theorem Held.at {tb B:Nat} {t:File} {v:Value} {bl:List Nat} {w:World} (h:Held tb B t v bl w):∃ A c,v=.slice A t.files.length c∧FileAt w ⟨tb,0,none⟩ t A c:=by
 obtain ⟨A,c,rfl,hc,hC⟩:=FT_reads B t w v bl h.ft
 exact ⟨A,c,rfl,cell_of h.box rfl,cell_of h.box rfl,cell_of h.box rfl,cell_of h.box rfl,hc,hC⟩
def Off (tb:Nat) (bl:List Nat) (j:Nat):Prop:=j ∉ bl∧j≠tb
mutual
theorem FT_cells (B:Nat):∀ (x:File) (w:World) (v:Value) (bl:List Nat),FT B x w v bl→∀ k∈bl,∃ cs,w.heap[k]? = some (.cells cs 25 (0,0))
 | ⟨_,_,_,l⟩,w,v,bl,h=>by
  rw [FT] at h
  rcases h with ⟨_,_,rfl⟩ | ⟨g,inner,bs,hv,rfl,ho,hl⟩
  ·intro k hk;cases hk
  ·intro k hk
   rcases List.mem_cons.1 hk with rfl | hk
   ·rcases ho.2 with ⟨hv0,_⟩ | ⟨g',cap,cur,hvv,hb,hg,hnc,hcm,hcs,htake⟩
    ·rw [hv0] at hv
     simp [Value.ownBlock] at hv
    ·rw [hvv] at hv
     injection hv with hv
     subst hv
     exact ⟨_,hg⟩
   ·exact LT_cells B l w inner bs hl k hk
theorem LT_cells (B:Nat):∀ (l:List File) (w:World) (inner:List Value) (bs:List Nat),LT B l w inner bs→∀ k∈bs,∃ cs,w.heap[k]? = some (.cells cs 25 (0,0))
 | [],w,inner,bs,h=>by
  rw [LT] at h
  obtain ⟨_,rfl⟩:=h
  intro k hk;cases hk
 | x :: l,w,inner,bs,h=>by
  rw [LT] at h
  obtain ⟨v,bx,br,rest,h1,rfl,h3,h4⟩:=h
  intro k hk
  rcases List.mem_append.1 hk with hk | hk
  ·exact FT_cells B x w v bx h3 k hk
  ·exact LT_cells B l w rest br h4 k hk
end
theorem FT_own {B:Nat} {d:File} {W:World} {v:Value} {bl:List Nat} (h:FT B d W v bl) (hN:bl.Nodup) :
  ∃ inner bs,W.ownsRow B 25 4 v d.files.length inner∧LT B d.files W inner bs∧bs.Nodup∧(∀ k∈bs,k∈bl∧v.ownBlock≠some k)∧(∀ k,v.ownBlock=some k→k∈bl):=by
 rw [FT_eq] at h
 rcases h with ⟨h0,rfl,rfl⟩ | ⟨g,inner,bs,hv,rfl,ho,hL⟩
 ·exact ⟨[],[],(by rw [h0];exact own_nil _ _ _ _),(by rw [h0,LT];exact ⟨rfl,rfl⟩),List.nodup_nil,(fun k hk=>absurd hk List.not_mem_nil),(fun k hk=>by cases hk)⟩
 ·have hn:=List.nodup_cons.1 hN
  refine ⟨inner,bs,ho,hL,hn.2,fun k hk=>⟨List.mem_cons_of_mem _ hk,fun e => ?_⟩,fun k hk => ?_⟩
  ·rw [hv] at e
   injection e with e
   exact hn.1 (e ▸ hk)
  ·rw [hv] at hk
   injection hk with hk
   rw [hk]
   exact List.mem_cons_self
theorem FT_push {B:Nat} {d z:File} {W W':World} {v v2:Value} {inner:List Value} {bs:List Nat} (hL:LT B d.files W inner bs) (hN:bs.Nodup) (hv:∀ k∈bs,v.ownBlock≠some k) (hz:z.files=[]) (hm:∀ k∈bs,W'.heap[k]? = W.heap[k]?)
  (ho:W'.ownsRow B 25 4 v2 (d.files.length+1) (inner++[.string z.name,.int .u8 z.kind,.string z.data,.slice none 0 0])) (h2:v2.ownBlock=v.ownBlock∨∃ N,v2.ownBlock=some N∧W.heap.size≤N) :
  ∃ g2,v2.ownBlock=some g2∧FT B (pushF d z) W' v2 (g2 :: bs)∧(g2 :: bs).Nodup∧(v.ownBlock=some g2∨W.heap.size≤g2):=by
 obtain ⟨g2,hg2⟩:∃ g2,v2.ownBlock=some g2:=by
  rcases ho.2 with ⟨_,h0⟩ | ⟨g',cap,cur,hvv,_⟩
  ·omega
  ·exact ⟨g',by rw [hvv];rfl⟩
 have hor:v.ownBlock=some g2∨W.heap.size≤g2:=by
  rcases h2 with h2 | ⟨N,h2,hN⟩
  ·exact .inl (h2.symm.trans hg2)
  ·rw [hg2] at h2
   injection h2 with h2
   exact .inr (h2 ▸ hN)
 refine ⟨g2,hg2,?_,List.nodup_cons.2 ⟨fun hk => ?_,hN⟩,hor⟩
 ·rw [FT_eq]
  refine .inr ⟨g2,_,bs,hg2,rfl,?_,LT_push B d.files W' inner bs z (LT_move B _ W W' inner bs hL hm) hz⟩
  show W'.ownsRow B _ 4 v2 (d.files++[z]).length _
  rw [List.length_append]
  exact ho
 ·rcases hor with h | h
  ·exact hv _ hk h
  ·have:=(LT_lt B _ _ _ _ hL _ hk).1
   omega
theorem sprout {tb B:Nat} {t d:File} {v:Value} {bl:List Nat} {W:World} {q:List ByteArray} {ad':Addr} (h:Held tb B t v bl W) (hr:Reach W ⟨tb,0,none⟩ t q ad' d) :
  ∃ (g o:Nat) (v':Value) (inner:List Value),ad'=⟨g,o,none⟩∧W.cell? ⟨g,o+3,none⟩=some v'∧(∃ cs,W.heap[g]? = some (.cells cs 25 (0,0)))∧(g=tb∨g∈bl)∧W.ownsRow B 25 4 v' d.files.length inner∧(∀ k,v'.ownBlock=some k→k∈bl∧k≠g) ∧
   ∀ (W':World) (v2:Value) (z:File),z.files=[]→(∀ k,k=tb∨k∈bl→k≠g→v'.ownBlock≠some k→W'.heap[k]? = W.heap[k]?)→W'.heap[g]? = (W.setCell ⟨g,o+3,none⟩ v2).heap[g]? →
    W'.ownsRow B 25 4 v2 (d.files.length+1) (inner++[.string z.name,.int .u8 z.kind,.string z.data,.slice none 0 0])→(v2.ownBlock=v'.ownBlock∨∃ N,v2.ownBlock=some N∧W.heap.size≤N) →
    ∃ v3 bl2,Held tb B (putP t q (pushF d z)) v3 bl2 W'∧∀ k∈bl2,k∈bl∨W.heap.size≤k:=by
 have hlt:=FT_lt B t W v bl h.ft
 cases q with
 | nil =>
  obtain ⟨rfl,rfl⟩:=hr
  obtain ⟨inner,bs,ho,hL,hbn,hbs,hvb⟩:=FT_own h.ft h.nd
  refine ⟨tb,0,v,inner,rfl,cell_of h.box rfl,⟨_,h.box⟩,.inl rfl,ho,fun k hk=>⟨hvb k hk,fun e => ?_⟩,fun W' v2 z hz hO hg hrow h2 => ?_⟩
  ·have:=(hlt k (hvb k hk)).2
   have:=h.lt
   omega
  ·obtain ⟨g2,hg2,hF,hN,hor⟩:=FT_push hL hbn (fun k hk=>(hbs k hk).2) hz (fun k hk=>hO k (.inr (hbs k hk).1) (fun e=>by
    have:=(hlt k (hbs k hk).1).2
    have:=h.lt
    omega) (hbs k hk).2) hrow h2
   refine ⟨v2,g2 :: bs,⟨?_,by rw [putP];exact hF,hN,h.lt⟩,fun k hk => ?_⟩
   ·rw [hg,putP]
    exact blk_put (cs:=#[.string d.name,.int .u8 d.kind,.string d.data,v]) h.box 3 _ rfl
   ·rcases List.mem_cons.1 hk with rfl | hk
    ·exact hor.imp (fun e=>hvb _ e) id
    ·exact .inl (hbs k hk).1
 | cons n q =>
  obtain ⟨g,o,v',by_,rfl,hgb,hc,hF,hby,hbn,hT⟩:=focus B W q n t ⟨tb,0,none⟩ ad' d v bl (cell_of h.box rfl) h.ft h.nd hr
  obtain ⟨inner,bs,ho,hL,hbsn,hbs,hvb⟩:=FT_own hF hbn
  refine ⟨g,o,v',inner,rfl,hc,FT_cells B t W v bl h.ft g hgb,.inr hgb,ho,fun k hk=>hby k (hvb k hk),fun W' v2 z hz hO hg hrow h2 => ?_⟩
  have hm:∀ k∈bs,W'.heap[k]? = W.heap[k]? := fun k hk=>hO k (.inr (hby k (hbs k hk).1).1) (hby k (hbs k hk).1).2 (hbs k hk).2
  obtain ⟨g2,hg2,hF2,hN2,hor⟩:=FT_push hL hbsn (fun k hk=>(hbs k hk).2) hz hm hrow h2
  obtain ⟨bl',hF',hn',hs'⟩:=hT W' v2 (pushF d z) (g2 :: bs) (fun k hk h1 h3=>hO k (.inr hk) h1 (fun e=>h3 (hvb k e))) hg hF2 rfl rfl rfl hN2 (fun k hk=>by
   rcases List.mem_cons.1 hk with rfl | hk
   ·rcases hor with e | e
    ·exact .inl (hvb _ e)
    ·exact .inr fun hk=>by have:=(hlt _ hk).1;omega
   ·exact .inl (hbs k hk).1)
  obtain ⟨k1,k2,k3⟩:=putP_keep t n q (pushF d z)
  have htb:∀ k∈bl,k≠tb:=fun k hk e=>by
   have:=(hlt k hk).2
   have:=h.lt
   omega
  refine ⟨v,bl',⟨?_,hF',hn',h.lt⟩,fun k hk => ?_⟩
  ·rw [k1,k2,k3]
   exact (hO tb (.inl rfl) (fun e=>htb g hgb e.symm) (fun e=>htb tb (hby tb (hvb tb e)).1 rfl)).trans h.box
  ·rcases hs' k hk with hk | hk
   ·exact .inl hk
   ·rcases List.mem_cons.1 hk with rfl | hk
    ·exact hor.imp (fun e=>(hby _ (hvb _ e)).1) id
    ·exact .inl (hby k (hbs k hk).1).1
end Go.Proofs.YtdnhjnlhmfajnaaGreatDoor.G
end
section
section
namespace Go.Proofs.YtdnhjnlhmfajnaaGreatDoor.G
open Go.RowKit Go.Lib Go.Proofs.YtdnhjnlhmfajnaaGreatDoorW.PrintWords Go.Proofs.YtdnhjnlhmfajnaaGreatDoorW.PrintLast
set_option linter.unusedVariables false
set_option linter.unusedSimpArgs false
theorem results_cc {P:Program} {fn:Func} {p u q:Tmp} {ty ty2:TypeId} (h:fn.results=#[.cell p ty,.tmp u,.cell q ty2]) (tmps:Array Value) (w:World) (g g2:Nat) (t t2:TypeId) (cs cs2:Array Value) (fr fr2:Nat×Nat) (d d2:TypeDesc)
  (hp:tmps.getD p undef=.pointer (some ⟨g,0,none⟩)) (hq:tmps.getD q undef=.pointer (some ⟨g2,0,none⟩)) (hg:w.heap[g]? = some (.cells cs t fr)) (hg2:w.heap[g2]? = some (.cells cs2 t2 fr2))
  (hu:P.underlying ty=some d) (hu2:P.underlying ty2=some d2) (hd:(match d with | .struct _ | .array _ _=>true | _=>false)=true) (hd2:(match d2 with | .struct _ | .array _ _=>true | _=>false)=true) (hi:(P.info? ty).map (·.size)=some cs.size) (hi2:(P.info? ty2).map (·.size)=some cs2.size) :
  (results fn tmps).run P w=.ok (.tuple #[.agg cs,tmps.getD u undef,.agg cs2]) w:=by
 have hp':tmps[p]?.getD undef=.pointer (some ⟨g,0,none⟩):=by simpa using hp
 have hq':tmps[q]?.getD undef=.pointer (some ⟨g2,0,none⟩):=by simpa using hq
 simp [results,h,hp',hq',asAddr,run_loadVar_row w g t ty cs fr d hg hu hd hi,run_loadVar_row w g2 t2 ty2 cs2 fr2 d2 hg2 hu2 hd2 hi2]
def cost (l:List (ByteArray×Bool)):Nat:=(l.map fun x=>4+2 * x.1.size).sum
theorem cost_drop {l:List (ByteArray×Bool)} {k:Nat} (h:k<l.length):cost (l.drop k)=4+2 * l[k].1.size+cost (l.drop (k+1)):=by
 conv=>lhs;rw [List.drop_eq_getElem_cons h]
 simp only [cost,List.map_cons,List.sum_cons]
theorem line_at {w:World} {A:Option Addr} {l:List (ByteArray×Bool)} (h:LineK.C w A l.length l) (k:Nat) (hk:k<l.length) :
  ∃ ad,A=some ad∧w.cell? (ad.add (k * 2))=some (.string l[k].1)∧w.cell? ⟨(ad.add (k * 2)).block,(ad.add (k * 2)).off+1,none⟩=some (.bool l[k].2):=by
 obtain ⟨ad,c,e,_,hK,hc0⟩:=Kd.C_get h (ByteArray.empty,false) (k:Int) (by omega) (by omega)
 rw [Int.toNat_natCast] at hc0 hK
 have hg:l.getD k (ByteArray.empty,false)=l[k]:=by simp [List.getD,hk]
 rw [hg] at hK
 obtain ⟨_,_,rfl,rfl,rfl⟩:=hK
 have hc:∀ j u,[Value.string l[k].1,Value.bool l[k].2][j]? = some u→w.cell? (ad.add (k * 2+j))=some u:=hc0
 exact ⟨ad,e,hc 0 _ rfl,by rw [← add_field _ _ 1 (by omega)];exact hc 1 _ rfl⟩
theorem cost_cons (x:ByteArray×Bool) (l:List (ByteArray×Bool)):cost (x :: l)=4+2 * x.1.size+cost l:=by simp [cost]
theorem lines_cost:∀ (N:Nat) (l:List UInt8),l.length≤N→cost (linesP l)≤6 * l.length∧(linesP l).length≤l.length
 | N,l,h=>by
  by_cases h0:l=[]
  ·subst h0
   rw [lines_nil]
   exact ⟨Nat.zero_le _,Nat.le_refl _⟩
  cases hc:cutB 10 l with
  | none =>
   have h1:=List.length_pos_iff.2 h0
   rw [lines_none h0 hc,cost_cons,mk_sizeB]
   simp only [cost,List.map_nil,List.sum_nil,List.length_cons,List.length_nil]
   omega
  | some x =>
   have hl:=congrArg List.length (cutB_len (t:=x.1) (u:=x.2) hc)
   simp only [List.length_append,List.length_cons] at hl
   cases N with
   | zero=>omega
   | succ N =>
    have ih:=lines_cost N x.2 (by omega)
    rw [lines_some hc,cost_cons,mk_sizeB,List.length_cons]
    omega
theorem row_size (s:ByteArray):(readR s).path.size≤s.size∧(readR s).data.size≤s.size:=by
 have hz:∀ k,(badR k).path.size≤s.size∧(badR k).data.size≤s.size:=fun k=>⟨Nat.zero_le _,Nat.zero_le _⟩
 have hdat:∀ (k:Int) (p:List UInt8) (l:List UInt8),p.length≤s.size→l.length≤s.size→(dataR k p l).path.size≤s.size∧(dataR k p l).data.size≤s.size:=by
  intro k p l hp hl
  unfold dataR
  cases l with
  | nil=>exact hz 2
  | cons c r =>
   simp only [List.length_cons] at hl
   simp only
   split
   ·split
    ·rename_i x hx
     have hb:=unq_bound (o:=x.1) (n:=x.2) hx
     simp only [mkS,mk_sizeB] at hb
     split
     ·simp only [mkS,mk_sizeB]
      omega
     ·exact hz 2
    ·exact hz 2
   ·exact hz 2
 unfold readR
 cases hc:cutB 32 s.data.toList with
 | none=>exact hz 1
 | some x =>
  have hl:=congrArg List.length (cutB_len (t:=x.1) (u:=x.2) hc)
  rw [← Lib.size_eq] at hl
  simp only [List.length_append,List.length_cons] at hl
  simp only
  split
  ·exact hz 1
  ·unfold restR
   cases hu:unq (mkS x.2) with
   | none=>exact hz 2
   | some y =>
    have hb:=unq_bound (o:=y.1) (n:=y.2) hu
    simp only [mkS,mk_sizeB] at hb
    simp only
    split
    ·split
     ·exact ⟨by simp only [mkS,mk_sizeB];omega,Nat.zero_le _⟩
     ·exact hz 2
    ·exact hdat _ _ _ (by omega) (by rw [List.length_drop];omega)
theorem cuts_size:∀ (N:Nat) (l:List UInt8),l.length≤N→∀ y∈cutsP l,y.size≤l.length
 | N,l,h,y,hy=>by
  cases hc:cutB 47 l with
  | none =>
   rw [cuts_none hc] at hy
   rw [List.mem_singleton.1 hy,mk_sizeB]
   exact Nat.le_refl _
  | some x =>
   have hl:=congrArg List.length (cutB_len (t:=x.1) (u:=x.2) hc)
   simp only [List.length_append,List.length_cons] at hl
   rw [cuts_some hc] at hy
   cases N with
   | zero=>omega
   | succ N =>
    rcases List.mem_cons.1 hy with rfl | hy
    ·rw [mk_sizeB];omega
    ·have:=cuts_size N x.2 (by omega) y hy
     omega
theorem split_size (s:ByteArray):(∀ y∈(splitR s).1,y.size≤s.size)∧((splitR s).2=true→(splitR s).1≠[]∧(splitR s).1.length≤64)∧(splitR s).1.length≤s.size+1:=by
 have hz:(∀ y∈(([],false):List ByteArray×Bool).1,y.size≤s.size)∧((([],false):List ByteArray×Bool).2=true→(([],false):List ByteArray×Bool).1≠[]∧(([],false):List ByteArray×Bool).1.length≤64)∧(([],false):List ByteArray×Bool).1.length≤s.size+1:=⟨by simp,by simp,by simp⟩
 unfold splitR
 cases hs:s.data.toList with
 | nil=>exact hz
 | cons c r =>
  have h2:s.size=r.length+1:=by rw [Lib.size_eq,hs];rfl
  simp only
  split
  ·split
   ·refine ⟨fun y hy => ?_,fun h=>⟨?_,of_decide_eq_true h⟩,?_⟩
    ·have:=cuts_size _ r (Nat.le_refl _) y hy
     omega
    ·cases hc:cutB 47 r with
     | none=>rw [cuts_none hc];simp
     | some x=>rw [cuts_some hc];simp
    ·have:=cutsL_len _ r (Nat.le_refl _)
     simp only
     omega
   ·exact hz
  ·exact hz
theorem newF_bulk {tx:ByteArray} {p:List ByteArray} (hp:∀ y∈p,y.size≤tx.size) (r:RowR) (hd:r.data.size≤tx.size):(newF p r).bulk≤4+2 * tx.size:=by
 have h1:=bulk_eq (newF p r)
 have h2:(p.getLastD ⟨#[]⟩).size≤tx.size:=by
  cases p with
  | nil=>exact Nat.zero_le _
  | cons x p=>rw [List.getLastD_cons];exact hp _ List.getLastD_mem_cons
 have h3:bulkL (newF p r).files=0:=rfl
 simp only [newF] at h1 h3 ⊢
 omega
theorem twoL_ {P:Program} {ops:Array Oper} {Q:Exit→Act→World→Prop} {md:Region.Mode} {S:World→Prop} {ds:List Nat} {i j:Nat} {Ni Nj:Option Tmp} {oi oj:Oper} {fuel:Nat} {l:Array Bool} {a:Act} {w:World} (li lj:Array Bool) (hi:ops[i]? = some oi) (hj:ops[j]? = some oj) (hNi:oi.dst=Ni) (hNj:oj.dst=Nj)
  (hc:(Region.ready md ops l == [i,j] && l.setIfInBounds i true == li && l.setIfInBounds j true == lj)=true) (hdi:i∈ds) (hdj:j∈ds)
  (h1:∀ K:Act→World→Prop,Shut (∀ a' w',wpAnyLast P md ops Q S ds fuel li a' w'→K a' w')→if Region.wanted oi (yielded ops a.tmps)=true then Oper.wp P oi a w K Q else K (a.put Ni undef) w)
  (h2:∀ K:Act→World→Prop,Shut (∀ a' w',wpAnyLast P md ops Q S ds fuel lj a' w'→K a' w')→if Region.wanted oj (yielded ops a.tmps)=true then Oper.wp P oj a w K Q else K (a.put Nj undef) w) :
  wpAnyLast P md ops Q S ds (fuel+1) l a w:=by
 subst hNi
 subst hNj
 simp only [Bool.and_eq_true,beq_iff_eq] at hc
 obtain ⟨⟨h3,h4⟩,h5⟩:=hc
 subst h4
 subst h5
 exact wpAnyLast_ready h3 (by simp) (AllReadyL.cons_last hi hdi (fun K hK=>h1 K hK) (AllReadyL.cons_last hj hdj (fun K hK=>h2 K hK) AllReadyL.nil))
theorem exec_append {P:Program} {o:Oper} {ev:Operand→Value} {w w':World} {vs vx v':Value} (s x:Operand) (t:TypeId) (ho:o.op=.call {callee:=.builtin .append,args:=#[s,x],argTypes:=#[t,t]}) (hs:ev s=vs) (hx:ev x=vx)
  (hr:(Builtin.append_ #[t,t] o.type #[vs,vx]).run P w=.ok v' w'):(execOp ev o).run P w=.ok (.value v') w':=by
 unfold execOp
 simp only [ho,resolve,invoke,builtin,Sem.run_bind,Sem.run_pure,Result.andThen_ok,List.map_toArray,List.map_cons,List.map_nil,hs,hx,hr]
theorem R_onlyG {α:Type} {d:Kd α} {e base:Nat} {ok:Nat→Prop} {w w1:World} {v:Value} {xs:List α} {F:Nat→Prop} (h:d.R e w base ok v xs) (ho:Only F w w1) (hn:∀ k,ok k→¬ F k):d.R e w1 base ok v xs :=
 Kd.R_step h fun k hk hlt=>ho.block k hlt (hn k hk)
section
variable {t:File} {last p:List ByteArray} {tx:ByteArray} {rr:RowR} (hr:readR tx=rr) (h0:rr.rule=0)
include hr h0
theorem line_3 (hs:splitR rr.path=(p,false)):lineR t last tx=(3,t,last):=by
 unfold lineR
 rw [hr,if_pos h0,hs,if_neg (by simp)]
theorem line_4 (hs:splitR rr.path=(p,true)) (hc:last≠[]∧0≤cmpP last p):lineR t last tx=(4,t,last):=by
 unfold lineR
 rw [hr,if_pos h0,hs,if_pos rfl,if_pos hc]
theorem line_5 (hs:splitR rr.path=(p,true)) (hc:¬ (last≠[]∧0≤cmpP last p)) (hd:dirO t p=none):lineR t last tx=(5,t,last):=by
 unfold lineR
 rw [hr,if_pos h0,hs,if_pos rfl,if_neg hc,hd]
theorem line_6 {d:File} (hs:splitR rr.path=(p,true)) (hc:¬ (last≠[]∧0≤cmpP last p)) (hd:dirO t p=some d) (hk:rr.kind=3∧targetB rr.data=false):lineR t last tx=(6,t,last):=by
 unfold lineR
 rw [hr,if_pos h0,hs,if_pos rfl,if_neg hc,hd]
 simp only
 rw [if_pos hk]
theorem line_0 {d:File} (hs:splitR rr.path=(p,true)) (hc:¬ (last≠[]∧0≤cmpP last p)) (hd:dirO t p=some d) (hk:¬ (rr.kind=3∧targetB rr.data=false)):lineR t last tx=(0,addP t p d (newF p rr),p):=by
 unfold lineR
 rw [hr,if_pos h0,hs,if_pos rfl,if_neg hc,hd]
 simp only
 rw [if_neg hk]
end
theorem line_bad {t:File} {last:List ByteArray} {tx:ByteArray} {rr:RowR} (hr:readR tx=rr) (h0:rr.rule≠0):lineR t last tx=(rr.rule,t,last):=by
 unfold lineR
 rw [hr,if_neg h0]
theorem rule_nat (s:ByteArray):0≤(readR s).rule:=by
 have hz:∀ k,0≤k→0≤(badR k).rule:=fun k h=>h
 unfold readR
 split
 ·exact hz 1 (by decide)
 ·split
  ·exact hz 1 (by decide)
  ·unfold restR
   split
   ·split
    ·split
     ·exact Int.le_refl 0
     ·exact hz 2 (by decide)
    ·unfold dataR
     split
     ·exact hz 2 (by decide)
     ·split
      ·split
       ·split
        ·exact Int.le_refl 0
        ·exact hz 2 (by decide)
       ·exact hz 2 (by decide)
      ·exact hz 2 (by decide)
   ·exact hz 2 (by decide)
theorem last_at {p:List ByteArray} {n:Nat} (h:p.length=n+1):rdOf ByteArray.empty p (n:Int)=p.getLastD ⟨#[]⟩:=by
 unfold rdOf
 rw [Int.toNat_natCast,List.getD_eq_getElem?_getD,List.getLastD_eq_getLast?,List.getLast?_eq_getElem?,h,Nat.add_sub_cancel]
 rfl
theorem add_bulk {t d z:File} {p:List ByteArray} {k:Int} {m:Nat} (hg:goP t p.dropLast=(k,some d)) (hz:z.bulk≤m):(addP t p d z).bulk≤t.bulk+m:=by
 have h1:=bulk_put p.dropLast t (pushF d z) d k hg
 have h2:=push_bulk d z
 unfold addP
 omega
theorem Only.grown_of {w w':World} {row:Option Nat} (h:w.grownBy w' row):Only (fun k=>row=some k) w w':=⟨h.os,h.tape,h.output,h.size,fun k hk hn=>h.block k hk (fun e=>hn e.symm)⟩
theorem Only.drew {F:Nat→Prop} {X Y:World} (h:Only F X Y):Only F X Y.drew:=⟨h.os,h.tape,h.output,h.size,h.block⟩
theorem bulk_go:∀ (q:List ByteArray) (f d:File) (k:Int),goP f q=(k,some d)→d.bulk≤f.bulk
 | [],f,d,k,h=>by
  rw [goP] at h
  injection h with _ h
  injection h with h
  subst h
  exact Nat.le_refl _
 | n :: q,f,d,k,h=>by
  obtain ⟨x,hx,_,hg⟩:=goP_step h
  have h1:=bulk_go q x d k hg
  have h2:=bulk_child (List.mem_of_getElem? hx)
  omega
theorem cell_heap {W W':World} {g:Nat} (h:W'.heap[g]? = W.heap[g]?) (j:Nat):W'.cell? ⟨g,j,none⟩=W.cell? ⟨g,j,none⟩:=by simp [World.cell?,h]
theorem frozen_heap {W W':World} {g:Nat} {cs:Array Value} {t:TypeId} (h:W'.heap[g]? = W.heap[g]?) (h2:W.heap[g]? = some (.cells cs t (0,0))) (j:Nat):W'.frozen? ⟨g,j,none⟩=false:=by simp [World.frozen?,h,h2]
theorem own_cells {w:World} {B g n c:Nat} {e:TypeId} {m:Nat} {xs:List Value} (h:w.ownsRow B e m (.slice (some ⟨g,0,none⟩) n c) n xs):∃ cs,w.heap[g]? = some (.cells cs e (0,0)):=by
 rcases h.2 with ⟨hv0,_⟩ | ⟨g',cap,cur,hvv,hb,hg,_⟩
 ·cases hv0
 ·injection hvv with hvv
  injection hvv with hvv
  injection hvv with hvv
  subst hvv
  exact ⟨_,hg⟩
theorem setCell_comm (w:World) (p q:Addr) (v u:Value) (h:p.block≠q.block):(w.setCell p v).setCell q u=(w.setCell q u).setCell p v:=by
 unfold World.setCell
 simp only
 congr 1
 apply Array.ext
 ·simp
 ·intro i h1 h2
  simp only [Array.getElem_modify]
  by_cases hp:p.block=i
  ·by_cases hq:q.block=i
   ·exact absurd (hp.trans hq.symm) h
   ·simp [hp,hq]
  ·by_cases hq:q.block=i
   ·simp [hp,hq]
   ·simp [hp,hq]
theorem setCell_same {W W':World} (p:Addr) (v:Value) (h:W.heap[p.block]? = W'.heap[p.block]?):(W.setCell p v).heap[p.block]? = (W'.setCell p v).heap[p.block]? := by
 simp [World.setCell,Array.getElem?_modify,h]
theorem set4 {inner:List Value} {m:Nat} (h:inner.length=m) (a b c d a' b' c' d':Value):((((inner++[a,b,c,d]).set m a').set (m+1) b').set (m+2) c').set (m+3) d'=inner++[a',b',c',d']:=by
 subst h
 simp [List.set_append]
end Go.Proofs.YtdnhjnlhmfajnaaGreatDoor.G
end
section
section
namespace Go.Proofs.YtdnhjnlhmfajnaaGreatDoor.G
open Go.RowKit Go.Lib Go.Proofs.YtdnhjnlhmfajnaaGreatDoorW.PrintWords Go.Proofs.YtdnhjnlhmfajnaaGreatDoorW.PrintLast
set_option linter.unusedVariables false
def KeptK:Kd (List ByteArray×(Int×Int)):=Kd.pair (Kd.slice 9 Kd.string) (Kd.pair (Kd.int .u8) (Kd.int .i64))
def keptE (y:List ByteArray×File):List ByteArray×(Int×Int):=(y.1,(y.2.kind,(y.2.data.size:Int)))
def keptL (p:List ByteArray) (f:File):List (List ByteArray×(Int×Int)):=(preF p f).map keptE
theorem info_kept:(Tryz.prog.info? 49).map (fun i=>(i.zero,i.size,i.bytes))=some (some (.agg #[.slice none 0 0,.int .u8 0,.int .i64 0]),3,40):=by kernel_rfl
theorem kept_mkM {w:World} {base:Nat} {ok:Nat→Prop} {v:Value} {q:List ByteArray} (k s:Int) (h:Kd.R Kd.string 9 w base ok v q):KeptK.M w base ok (q,(k,s)) [v,.int .u8 k,.int .i64 s] :=
 ⟨[v],[.int .u8 k,.int .i64 s],rfl,⟨v,rfl,h⟩,⟨[.int .u8 k],[.int .i64 s],rfl,rfl,rfl⟩⟩
end Go.Proofs.YtdnhjnlhmfajnaaGreatDoor.G
end
section
namespace Go.Proofs.YtdnhjnlhmfajnaaGreatDoor.G
open Go.RowKit Go.Lib Go.Proofs.YtdnhjnlhmfajnaaGreatDoorW.PrintWords Go.Proofs.YtdnhjnlhmfajnaaGreatDoorW.PrintLast
set_option linter.unusedVariables false
set_option linter.unusedSimpArgs false
theorem eq_upto {α:Type} {a b:List α} (hl:a.length=b.length) (h:∀ j (h1:j<a.length) (h2:j<b.length),a[j]=b[j]):a=b:=List.ext_getElem hl h
set_option maxHeartbeats 4000000 in
set_option maxRecDepth 100000 in
theorem rpaths_calls (A:Option Addr) (c:Nat) (a:List ByteArray) (B:Option Addr) (d:Nat) (b:List ByteArray) (w:World) (hr:Kd.C Kd.string w A a.length a) (hc:a.length≤c) (hs:Kd.C Kd.string w B b.length b) (hd:b.length≤d) (hl:a.length≤8796093022208) :
  Calls Tryz.prog 22 #[.slice A a.length c,.slice B b.length d] w fun e w'=>e=.returned (.bool (decide (a=b)))∧∃ n,w'=w.drewN n:=by
 have HR:=Lib.hid hr
 have HS:=Lib.hid hs
 obtain ⟨r,hrr⟩:∃ r,decide (a=b)=r:=⟨_,rfl⟩
 rw [hrr]
 have HE:=Lib.hid hrr
 clear hr hs hrr
 by_cases hlen:a.length=b.length
 ·have hz:((a.length:Int) != (b.length:Int))=false:=by simp [hlen]
  have HLN:=Lib.hid hlen
  clear hlen
  go_enter Tryz.func22,Tryz.ntmps22
  go_wp2_with fail
  go_loopw [13] (fun i wr=>∃ k n:Nat,k≤a.length∧i=.int .i64 k∧wr=w.drewN n∧Hid (∀ j (h1:j<a.length) (h2:j<b.length),j<k→a[j]=b[j])) (fun i _=>a.length - (RowKit.intOf i).toNat)
  case atStart=>exact ⟨0,0,by omega,rfl,rfl,Lib.hid (fun j _ _ hj=>by omega)⟩
  case round =>
   obtain ⟨k,n,hk,rfl,rfl,HA⟩:=hrel
   by_cases q1:k<a.length
   ·have q2:k<b.length:=by have:=HLN.out;omega
    obtain ⟨ad,rfl,hx⟩:=Kd.at_string HR.out (k:Int) (by omega) (by omega)
    obtain ⟨bd,rfl,hy⟩:=Kd.at_string HS.out (k:Int) (by omega) (by omega)
    rw [Int.toNat_natCast] at hx hy
    have hxe:rdOf ByteArray.empty a (k:Int)=a[k]:=by simp [rdOf,q1]
    have hye:rdOf ByteArray.empty b (k:Int)=b[k]:=by simp [rdOf,q2]
    rw [hxe] at hx
    rw [hye] at hy
    have HK:Hid (a[k]=b[k]→∀ j (h1:j<a.length) (h2:j<b.length),j<k+1→a[j]=b[j]):=Lib.hid (fun he j h1 h2 h3=>by
     by_cases hj:j<k
     ·exact HA.out j h1 h2 hj
     ·obtain rfl:j=k:=by omega
      exact he)
    have HF:Hid (a[k]≠b[k]→a≠b):=Lib.hid (fun h e=>h (by subst e;rfl))
    clear hxe hye HA
    generalize a[k]=x at *
    generalize b[k]=y at *
    have g1:(k:Int)<(a.length:Int):=by omega
    have g2:(k:Int)<(b.length:Int):=by omega
    by_cases q3:x=y
    ·have z3:(x.toList == y.toList)=true:=beq_iff_eq.2 (toList_inj.2 q3)
     have z4:(x.toList != y.toList)=false:=by rw [bne,z3];rfl
     have H3:=Lib.hid q3
     clear q3
     go_wp2_with fail
     go_quiet (fail)
     go_wp2_with fail
     go_roundw
     case rel=>exact ⟨k+1,_,by omega,by go_num,by first | rfl | (simp only [World.drewN_drewN];rfl),Lib.hid (HK.out H3.out)⟩
     case measure=>simp [RowKit.intOf];omega
    ·have z3:(x.toList == y.toList)=false:=beq_eq_false_iff_ne.2 (fun h=>q3 (toList_inj.1 h))
     have z4:(x.toList != y.toList)=true:=by rw [bne,z3];rfl
     have H3:=Lib.hid (HF.out q3)
     clear q3
     have hr:=HE.out
     rw [decide_eq_false H3.out] at hr
     have HR2:=Lib.hid hr
     clear hr
     go_wp2_with fail
     go_quiet (fail)
     go_wp2_with fail
     go_ret
     exact ⟨by rw [← HR2.out];rfl,_,by first | rfl | (simp only [World.drewN_drewN];rfl)⟩
   ·obtain rfl:k=a.length:=by omega
    have hr:=HE.out
    rw [decide_eq_true (eq_upto HLN.out fun j h1 h2=>HA.out j h1 h2 h1)] at hr
    have HR2:=Lib.hid hr
    clear hr q1
    go_wp2_with fail
    go_ret
    exact ⟨by rw [← HR2.out];rfl,n,rfl⟩
 ·have hz:((a.length:Int) != (b.length:Int))=true:=by rw [bne_iff_ne];omega
  have hr:=HE.out
  rw [decide_eq_false (fun e=>hlen (congrArg List.length e))] at hr
  have HR2:=Lib.hid hr
  clear hr hlen
  go_enter Tryz.func22,Tryz.ntmps22
  go_wp2_with fail
  go_ret
  exact ⟨by rw [← HR2.out];rfl,0,rfl⟩
theorem kept_at {w:World} {A:Option Addr} {l:List (List ByteArray×(Int×Int))} (h:KeptK.C w A l.length l) (k:Nat) (hk:k<l.length) :
  ∃ ad B d,A=some ad∧w.cell? (ad.add (k * 3))=some (.slice B l[k].1.length d)∧w.cell? ⟨(ad.add (k * 3)).block,(ad.add (k * 3)).off+1,none⟩=some (.int .u8 l[k].2.1)∧w.cell? ⟨(ad.add (k * 3)).block,(ad.add (k * 3)).off+2,none⟩=some (.int .i64 l[k].2.2)∧l[k].1.length≤d∧Kd.C Kd.string w B l[k].1.length l[k].1:=by
 obtain ⟨ad,c,e,_,hK,hc0⟩:=Kd.C_get h ([],(0,0)) (k:Int) (by omega) (by omega)
 rw [Int.toNat_natCast] at hc0 hK
 have hg:l.getD k ([],(0,0))=l[k]:=by simp [List.getD,hk]
 rw [hg] at hK
 obtain ⟨_,_,rfl,⟨B,d,rfl,hd,hC⟩,⟨_,_,rfl,rfl,rfl⟩⟩:=hK
 have hc:∀ j u,[Value.slice B l[k].1.length d,Value.int .u8 l[k].2.1,Value.int .i64 l[k].2.2][j]? = some u→w.cell? (ad.add (k * 3+j))=some u:=hc0
 exact ⟨ad,B,d,e,hc 0 _ rfl,by rw [← add_field _ _ 1 (by omega)];exact hc 1 _ rfl,by rw [← add_field _ _ 2 (by omega)];exact hc 2 _ rfl,hd,hC⟩
def bm (n m:Nat):Array Bool:=((List.range n).map (fun j=>m.testBit j)).toArray
end Go.Proofs.YtdnhjnlhmfajnaaGreatDoor.G
end
end
end
