import Derived.Test.YtdnhjnlhmfajnaaGreatDoorTDir
import Derived.Test.YtdnhjnlhmfajnaaGreatDoorTKept
import Derived.Laws.CopyRow
import Derived.Shelf.Spec.SlicesInsertGrow
import Derived.Deep.RegionLaw
import Derived.Test.YtdnhjnlhmfajnaaGreatDoorTEach
import Derived.Test.YtdnhjnlhmfajnaaGreatDoorRangeR
import Derived.Test.YtdnhjnlhmfajnaaGreatDoorKit
import Derived.RangeFuncNested
import Derived.RangeFuncBound
import Derived.RangeFuncCalls
import Derived.RangeFuncLeaves
import Derived.Shelf.Abstract
import Derived.WalkKit
import Derived.OwnWalkIn
import Derived.TacticsInMore
import Derived.LoopNIn
import Derived.LoopIn
import Derived.Test.YtdnhjnlhmfajnaaGreatDoorTCopy
import Derived.Test.YtdnhjnlhmfajnaaGreatDoorTBelow
import Derived.RangeFuncBox
import Derived.Test.YtdnhjnlhmfajnaaGreatDoorTPathK
set_option linter.unusedVariables false
set_option linter.unusedSimpArgs false
section
namespace Go.Proofs.YtdnhjnlhmfajnaaGreatDoor.G
open Go.RowKit Go.Lib Go.Proofs.YtdnhjnlhmfajnaaGreatDoorW.PrintWords Go.Proofs.YtdnhjnlhmfajnaaGreatDoorW.PrintLast
set_option linter.unusedVariables false
theorem store4_box {W:World} {g:Nat} {a b c d:Value} {t:TypeId} (h:W.heap[g]? = some (.cells #[a,b,c,d] t (0,0))) (v0 v1 v2 v3:Value) :
  ((((W.setCell ⟨g,0,none⟩ v0).setCell ⟨g,1,none⟩ v1).setCell ⟨g,2,none⟩ v2).setCell ⟨g,3,none⟩ v3).heap[g]? = some (.cells #[v0,v1,v2,v3] t (0,0)) :=
 blk_put (blk_put (blk_put (blk_put h 0 v0 rfl) 1 v1 rfl) 2 v2 rfl) 3 v3 rfl
theorem store4_below {B g:Nat} {a W:World} (h:Below B a W) (hg:B≤g) (v0 v1 v2 v3:Value) :
  Below B a ((((W.setCell ⟨g,0,none⟩ v0).setCell ⟨g,1,none⟩ v1).setCell ⟨g,2,none⟩ v2).setCell ⟨g,3,none⟩ v3) :=
 (((h.setCell (p:=⟨g,0,none⟩) hg v0).setCell (p:=⟨g,1,none⟩) hg v1).setCell (p:=⟨g,2,none⟩) hg v2).setCell (p:=⟨g,3,none⟩) hg v3
theorem unfr {W:World} {g:Nat} {cs:Array Value} {t:TypeId} (h:W.heap[g]? = some (.cells cs t (0,0))) (j:Nat):W.frozen? ⟨g,j,none⟩=false:=by simp [World.frozen?,h]
def nameIs (n:ByteArray) (x:File):Bool:=x.name.toList == n.toList
end Go.Proofs.YtdnhjnlhmfajnaaGreatDoor.G
end
section
namespace Go.Proofs.YtdnhjnlhmfajnaaGreatDoor.G
open Go.RowKit Go.Lib Go.Proofs.YtdnhjnlhmfajnaaGreatDoorW.PrintWords Go.Proofs.YtdnhjnlhmfajnaaGreatDoorW.PrintLast
set_option linter.unusedVariables false
set_option linter.unusedSimpArgs false
section
theorem own_lower {B B':Nat} {w:World} {v:Value} {n:Nat} {xs:List Value} {e m:Nat} (h:w.ownsRow B e m v n xs) (hB:B'≤B):w.ownsRow B' e m v n xs:=by
 refine ⟨h.1,h.2.imp id ?_⟩
 rintro ⟨g,cap,cur,h1,h2,h3⟩
 exact ⟨g,cap,cur,h1,Nat.le_trans hB h2,h3⟩
mutual
theorem FT_lower {B B':Nat} (hB:B'≤B):∀ (x:File) (w:World) (v:Value) (bl:List Nat),FT B x w v bl→FT B' x w v bl
 | ⟨_,_,_,l⟩,w,v,bl,h=>by
  rw [FT] at h ⊢
  rcases h with h | ⟨g,inner,bs,hv,rfl,ho,hl⟩
  ·exact .inl h
  ·exact .inr ⟨g,inner,bs,hv,rfl,own_lower ho hB,LT_lower hB l w inner bs hl⟩
theorem LT_lower {B B':Nat} (hB:B'≤B):∀ (l:List File) (w:World) (inner:List Value) (bs:List Nat),LT B l w inner bs→LT B' l w inner bs
 | [],w,inner,bs,h=>by rw [LT] at h ⊢;exact h
 | x :: l,w,inner,bs,h=>by
  rw [LT] at h ⊢
  obtain ⟨v,bx,br,rest,h1,rfl,h3,h4⟩:=h
  exact ⟨v,bx,br,rest,h1,rfl,FT_lower hB x w v bx h3,LT_lower hB l w rest br h4⟩
end
end
section
end
section
end
section
end
section
end
end Go.Proofs.YtdnhjnlhmfajnaaGreatDoor.G
end
section
section
namespace Go.Proofs.YtdnhjnlhmfajnaaGreatDoor.G
open Go.RowKit Go.Lib Go.Proofs.YtdnhjnlhmfajnaaGreatDoorW.PrintWords Go.Proofs.YtdnhjnlhmfajnaaGreatDoorW.PrintLast
set_option linter.unusedVariables false
theorem goP_full {f:File} {n:ByteArray} {q:List ByteArray} {d:File} {k:Int} (h:goP f (n :: q)=(k,some d)):∃ x,f.kind=1∧f.files[lowB f.files n]? = some x∧x.name=n∧goP x q=(k,some d):=by
 rw [goP] at h
 split at h
 ·rename_i hk
  split at h
  ·rename_i x hx
   split at h
   ·rename_i he
    exact ⟨x,hk,hx,toList_inj.1 (eq_of_beq he),h⟩
   ·cases h
  ·cases h
 ·cases h
theorem goP_zero:∀ (q:List ByteArray) (f d:File) (k:Int),goP f q=(k,some d)→k=0
 | [],f,d,k,h=>by rw [goP] at h;injection h with h _;exact h.symm
 | n :: q,f,d,k,h=>by
  obtain ⟨x,_,_,_,hg⟩:=goP_full h
  exact goP_zero q x d k hg
end Go.Proofs.YtdnhjnlhmfajnaaGreatDoor.G
end
section
namespace Go.Proofs.YtdnhjnlhmfajnaaGreatDoor.G
open Go.RowKit Go.Lib Go.Proofs.YtdnhjnlhmfajnaaGreatDoorW.PrintWords Go.Proofs.YtdnhjnlhmfajnaaGreatDoorW.PrintLast
set_option linter.unusedVariables false
theorem nameIs_iff {n:ByteArray} {x:File}:nameIs n x=true↔x.name=n:=by
 unfold nameIs
 constructor
 ·intro h
  exact toList_inj.1 (eq_of_beq h)
 ·intro h
  rw [h]
  exact beq_self_eq_true _
theorem nameIs_ne {n:ByteArray} {x:File} (h:x.name≠n):nameIs n x=false:=by
 cases hh:nameIs n x
 ·rfl
 ·exact absurd (nameIs_iff.1 hh) h
theorem low_less {l:List File} {n:ByteArray}:∀ x∈l.take (lowB l n),lessB x.name n=true:=by
 intro x hx
 unfold lowB at hx
 rw [← List.prefix_iff_eq_take.1 (List.takeWhile_prefix _)] at hx
 exact List.all_eq_true.1 (List.all_takeWhile (p:=fun x:File=>lessB x.name n) (l:=l)) x hx
theorem low_not {l:List File} {n:ByteArray} {x:File} (h:l[lowB l n]? = some x):lessB x.name n=false:=by
 have hd:l.drop (lowB l n)=l.dropWhile fun x=>lessB x.name n:=by
  unfold lowB
  have h1:=List.takeWhile_append_dropWhile (p:=fun x:File=>lessB x.name n) (l:=l)
  have h2:(l.takeWhile (fun x=>lessB x.name n)++l.dropWhile (fun x=>lessB x.name n)).drop (l.takeWhile fun x=>lessB x.name n).length=l.dropWhile fun x=>lessB x.name n:=List.drop_left
  rwa [h1] at h2
 have h2:(l.drop (lowB l n)).head? = some x:=by rw [List.head?_drop];exact h
 rw [hd] at h2
 have h3:=List.head?_dropWhile_not (fun x:File=>lessB x.name n) l
 rw [h2] at h3
 simpa using h3
theorem less_ne {a b:ByteArray} (h:lessB a b=true):a≠b:=fun e=>by
 rw [e,less_irrefl] at h
 cases h
theorem low_find {l:List File} (hs:SortedN l) (n:ByteArray):(match l[lowB l n]? with | some x=>if x.name.toList == n.toList then some x else none | none=>none)=l.find? (nameIs n):=by
 have hpre:∀ x∈l.take (lowB l n),nameIs n x=false:=fun x hx=>nameIs_ne (less_ne (low_less x hx))
 have hsp:l=l.take (lowB l n)++l.drop (lowB l n):=(List.take_append_drop _ _).symm
 have h1:l.find? (nameIs n)=(l.drop (lowB l n)).find? (nameIs n):=by
  conv=>lhs;rw [hsp]
  rw [List.find?_append,List.find?_eq_none.2 (fun x hx=>by simp [hpre x hx])]
  rfl
 rw [h1]
 cases hx:l[lowB l n]? with
 | none =>
  have hlen:=List.getElem?_eq_none_iff.1 hx
  rw [List.drop_of_length_le hlen]
  rfl
 | some x =>
  obtain ⟨hlt,hxe⟩:=List.getElem?_eq_some_iff.1 hx
  have hd:l.drop (lowB l n)=x :: l.drop (lowB l n+1):=by rw [List.drop_eq_getElem_cons hlt,hxe]
  rw [hd,List.find?_cons]
  change _=match nameIs n x with | true=>some x | false=>_
  simp only
  cases hnm:nameIs n x
  ·have h2:(x.name.toList == n.toList)=false:=hnm
   rw [if_neg (by rw [h2];decide)]
   symm
   simp only
   refine List.find?_eq_none.2 fun y hy => ?_
   have hxn:x.name≠n:=fun e=>by rw [nameIs_iff.2 e] at hnm;cases hnm
   have hnx:=less_total (low_not hx) hxn
   obtain ⟨j,hj,hyj⟩:=List.mem_iff_getElem.1 hy
   rw [List.getElem_drop] at hyj
   rw [List.length_drop] at hj
   have hxy:=sorted_lt hs (i:=lowB l n) (j:=lowB l n+1+j) (by omega) (by omega)
   rw [hxe,hyj] at hxy
   have:=less_ne (less_trans hnx hxy)
   simp [nameIs_ne (Ne.symm this)]
  ·have h2:(x.name.toList == n.toList)=true:=hnm
   rw [if_pos h2]
theorem goP_find {f:File} (hs:SortF f) (n:ByteArray) (p:List ByteArray):goP f (n :: p)=if f.kind=1 then (match f.files.find? (nameIs n) with | some x=>goP x p | none=>(31,none)) else (32,none):=by
 rw [SortF_eq] at hs
 rw [goP,← low_find hs.1 n]
 split
 ·cases f.files[lowB f.files n]? with
  | none=>rfl
  | some x=>simp only;split <;> rfl
 ·rfl
end Go.Proofs.YtdnhjnlhmfajnaaGreatDoor.G
end
end
section
section
namespace Go.Proofs.YtdnhjnlhmfajnaaGreatDoor.G
open Go.RowKit Go.Lib Go.Proofs.YtdnhjnlhmfajnaaGreatDoorW.PrintWords Go.Proofs.YtdnhjnlhmfajnaaGreatDoorW.PrintLast
set_option linter.unusedVariables false
theorem pr_memL {p:List ByteArray} {y:List ByteArray×File}:∀ {l:List File},y∈preL p l↔∃ x∈l,y=(p++[x.name],x)∨y∈preF (p++[x.name]) x
 | []=>by simp [preL]
 | x :: l=>by
  rw [preL,List.mem_cons,List.mem_append,pr_memL]
  constructor
  ·rintro (h | h | ⟨z,hz,h⟩)
   ·exact ⟨x,List.mem_cons_self,.inl h⟩
   ·exact ⟨x,List.mem_cons_self,.inr h⟩
   ·exact ⟨z,List.mem_cons_of_mem _ hz,h⟩
  ·rintro ⟨z,hz,h⟩
   rcases List.mem_cons.1 hz with rfl | hz
   ·exact h.imp id .inl
   ·exact .inr (.inr ⟨z,hz,h⟩)
theorem pr_mem {p:List ByteArray} {y:List ByteArray×File} {f:File}:y∈preF p f↔∃ x∈f.files,y=(p++[x.name],x)∨y∈preF (p++[x.name]) x:=by
 rw [preF_eq]
 exact pr_memL
theorem find_own {l:List File} (hs:SortedN l) {x:File} (hx:x∈l):l.find? (nameIs x.name)=some x:=by
 induction l with
 | nil=>cases hx
 | cons y l ih =>
  rw [SortedN,List.pairwise_cons] at hs
  rcases List.mem_cons.1 hx with rfl | hx
  ·rw [List.find?_cons,nameIs_iff.2 rfl]
  ·have hne:nameIs x.name y=false:=nameIs_ne (less_ne (hs.1 x hx))
   rw [List.find?_cons,hne]
   exact ih hs.2 hx
theorem pr_goes:∀ (n:Nat) (f:File) (p:List ByteArray) (e:List ByteArray×File),f.bulk≤n→SortF f→(∀ z∈preF p f,z.2.kind=1∨z.2.files=[])→(f.kind=1∨f.files=[])→e∈preF p f→∃ m s,e.1=p++m :: s∧goP f (m :: s)=(0,some e.2)
 | 0,f,p,e,hn,_,_,_,_=>by have:=bulk_eq f;omega
 | n+1,f,p,e,hn,hs,hz,hk,he=>by
  obtain ⟨x,hx,h⟩:=pr_mem.1 he
  have hk1:f.kind=1:=hk.resolve_right fun h=>by rw [h] at hx;cases hx
  have hs':=hs
  rw [SortF_eq] at hs'
  have hf:=find_own hs'.1 hx
  rcases h with rfl | h
  ·exact ⟨x.name,[],rfl,by rw [goP_find hs,if_pos hk1,hf];rfl⟩
  ·have hxm:(p++[x.name],x)∈preF p f:=pr_mem.2 ⟨x,hx,.inl rfl⟩
   have hb:=bulk_child hx
   obtain ⟨m,s,h1,h2⟩:=pr_goes n x (p++[x.name]) e (by omega) (SortL_mem.1 hs'.2 x hx) (fun z h=>hz z (pr_mem.2 ⟨x,hx,.inr h⟩)) (hz _ hxm) h
   exact ⟨x.name,m :: s,by rw [h1,List.append_assoc];rfl,by rw [goP_find hs,if_pos hk1,hf];exact h2⟩
theorem go_pr:∀ (s:List ByteArray) (m:ByteArray) (f y:File) (p:List ByteArray) (k:Int),SortF f→goP f (m :: s)=(k,some y)→(p++m :: s,y)∈preF p f
 | [],m,f,y,p,k,hs,h=>by
  obtain ⟨x,_,hx,rfl,h2⟩:=goP_full h
  rw [goP] at h2
  injection h2 with _ h2
  injection h2 with h2
  subst h2
  exact pr_mem.2 ⟨x,List.mem_of_getElem? hx,.inl rfl⟩
 | n :: s,m,f,y,p,k,hs,h=>by
  obtain ⟨x,_,hx,rfl,h2⟩:=goP_full h
  rw [SortF_eq] at hs
  have:=go_pr s n x y (p++[x.name]) k (SortL_mem.1 hs.2 x (List.mem_of_getElem? hx)) h2
  rw [List.append_assoc] at this
  exact pr_mem.2 ⟨x,List.mem_of_getElem? hx,.inr this⟩
theorem cmp_app:∀ (q a b:List ByteArray),cmpP (q++a) (q++b)=cmpP a b
 | [],a,b=>rfl
 | x :: q,a,b=>by rw [List.cons_append,List.cons_append,cmpP,if_pos rfl];exact cmp_app q a b
theorem cmp_below (q:List ByteArray) (m:ByteArray) (s:List ByteArray):cmpP q (q++m :: s)<0:=by
 have h:=cmp_app q [] (m :: s)
 rw [List.append_nil] at h
 rw [h]
 show (-1:Int)<0
 omega
theorem pr_less:∀ a b:List UInt8,Op.bytesLess a b=decide (compareBytes a b<0)
 | [],[]=>rfl
 | [],_ :: _=>rfl
 | _ :: _,[]=>rfl
 | x :: a,y :: b=>by
  have ih:=pr_less a b
  unfold Op.bytesLess compareBytes
  simp only [UInt8.lt_iff_toNat_lt]
  by_cases h1:x.toNat<y.toNat
  ·simp [h1]
  ·by_cases h2:y.toNat<x.toNat
   ·have h3:(x == y)=false:=by rw [beq_eq_false_iff_ne];rintro rfl;omega
    simp [h1,h2,h3]
   ·have h3:x=y:=UInt8.toNat_inj.1 (by omega)
    simp [h1,h2,h3,ih]
theorem less_cmp {x y:ByteArray} (h:lessB x y=true) (r s:List ByteArray):cmpP (x :: r) (y :: s)<0:=by
 rw [cmpP,if_neg (less_ne h)]
 unfold lessB at h
 rw [pr_less,decide_eq_true_eq,Lib.toList_data,Lib.toList_data] at h
 exact h
theorem pr_sorted:∀ (n:Nat) (f:File) (p:List ByteArray),f.bulk≤n→SortF f→(preF p f).Pairwise (fun a b=>cmpP a.1 b.1<0)∧∀ e∈preF p f,∃ m s,e.1=p++m :: s∧∃ x∈f.files,x.name=m
 | 0,f,p,hn,_=>by have:=bulk_eq f;omega
 | n+1,f,p,hn,hs=>by
  have hs':=hs
  rw [SortF_eq] at hs'
  have hall:∀ e∈preF p f,∃ m s,e.1=p++m :: s∧∃ x∈f.files,x.name=m:=fun e he=>by
   obtain ⟨x,hx,h⟩:=pr_mem.1 he
   rcases h with rfl | h
   ·exact ⟨x.name,[],rfl,x,hx,rfl⟩
   ·have hb:=bulk_child hx
    obtain ⟨m,s,h1,_⟩:=(pr_sorted n x (p++[x.name]) (by omega) (SortL_mem.1 hs'.2 x hx)).2 e h
    exact ⟨x.name,m :: s,by rw [h1,List.append_assoc];rfl,x,hx,rfl⟩
  refine ⟨?_,hall⟩
  rw [preF_eq]
  have hbl:∀ x∈f.files,x.bulk≤n∧SortF x:=fun x hx=>⟨by have:=bulk_child hx;omega,SortL_mem.1 hs'.2 x hx⟩
  generalize f.files=l at hbl hs'
  have hsn:=hs'.1
  clear hall hs' hs hn
  induction l with
  | nil=>exact .nil
  | cons x l ih =>
   rw [SortedN,List.pairwise_cons] at hsn
   have hx:=hbl x List.mem_cons_self
   have hi:=pr_sorted n x (p++[x.name]) hx.1 hx.2
   have hl:=ih (fun y hy=>hbl y (List.mem_cons_of_mem _ hy)) hsn.2
   have hfar:∀ e∈preL p l,∃ m s,e.1=p++m :: s∧lessB x.name m=true:=fun e he=>by
    obtain ⟨y,hy,h⟩:=pr_memL.1 he
    rcases h with rfl | h
    ·exact ⟨y.name,[],rfl,hsn.1 y hy⟩
    ·have hy2:=hbl y (List.mem_cons_of_mem _ hy)
     obtain ⟨m,s,h1,_⟩:=(pr_sorted n y (p++[y.name]) hy2.1 hy2.2).2 e h
     exact ⟨y.name,m :: s,by rw [h1,List.append_assoc];rfl,hsn.1 y hy⟩
   rw [preL,List.pairwise_cons,List.pairwise_append]
   refine ⟨fun e he => ?_,hi.1,hl,fun a ha b hb => ?_⟩
   ·rcases List.mem_append.1 he with he | he
    ·obtain ⟨m,s,h1,_⟩:=hi.2 e he
     simp only
     rw [h1]
     exact cmp_below _ m s
    ·obtain ⟨m,s,h1,h2⟩:=hfar e he
     simp only
     rw [h1,cmp_app]
     exact less_cmp h2 _ _
   ·obtain ⟨m,s,h1,_⟩:=hi.2 a ha
    obtain ⟨m2,s2,h3,h4⟩:=hfar b hb
    rw [h1,h3,List.append_assoc,cmp_app]
    exact less_cmp h4 _ _
def lookK (t:File) (p:List ByteArray):Option (Int×ByteArray):=match goP t p with
 | (_,some y)=>some (y.kind,y.data)
 | (_,none)=>none
theorem look_some {t:File} {p:List ByteArray} {x:Int×ByteArray} (h:lookK t p=some x):∃ y,goP t p=(0,some y)∧x=(y.kind,y.data):=by
 unfold lookK at h
 split at h
 ·rename_i k y hg
  obtain rfl:=goP_zero p t y k hg
  injection h with h
  exact ⟨y,hg,h.symm⟩
 ·cases h
theorem look_go {t y:File} {p:List ByteArray} {k:Int} (h:goP t p=(k,some y)):lookK t p=some (y.kind,y.data):=by unfold lookK;rw [h]
end Go.Proofs.YtdnhjnlhmfajnaaGreatDoor.G
end
section
namespace Go.Proofs.YtdnhjnlhmfajnaaGreatDoor.G
open Go.RowKit Go.Lib Go.Proofs.YtdnhjnlhmfajnaaGreatDoorW.PrintWords Go.Proofs.YtdnhjnlhmfajnaaGreatDoorW.PrintLast
set_option linter.unusedVariables false
set_option linter.unusedSimpArgs false
theorem both_getK:∀ (a b:List ByteArray) (j:Nat) (h1:j<a.length) (h2:j<b.length),j<both a b→a[j]=b[j]
 | [],b,j,h1,_,_=>by cases h1
 | x :: a,[],j,_,h2,_=>by cases h2
 | x :: a,y :: b,j,h1,h2,h=>by
  simp only [both] at h
  split at h
  ·rename_i e
   cases j with
   | zero=>simpa using e
   | succ j=>simpa using both_getK a b j (by simpa using h1) (by simpa using h2) (by omega)
  ·omega
theorem both_neK:∀ (a b:List ByteArray) (k:Nat),both a b=k→∀ (h1:k<a.length) (h2:k<b.length),a[k]≠b[k]
 | [],b,k,_,h1,_=>by cases h1
 | x :: a,[],k,_,_,h2=>by cases h2
 | x :: a,y :: b,k,h,h1,h2=>by
  simp only [both] at h
  split at h
  ·subst h
   simpa using both_neK a b _ rfl (by simpa using h1) (by simpa using h2)
  ·rename_i e
   subst h
   simpa using e
theorem cmpInt_neg (x y:Int):compareInt x y<0↔x<y:=by
 unfold compareInt
 split
 ·rename_i h;exact ⟨fun _=>h,fun _=>by decide⟩
 ·rename_i h
  refine ⟨fun h2 => ?_,fun h2=>absurd h2 h⟩
  split at h2 <;> simp at h2
set_option maxHeartbeats 4000000 in
set_option maxRecDepth 100000 in
theorem ahead_calls (A:Option Addr) (c:Nat) (a:List ByteArray) (B:Option Addr) (d:Nat) (b:List ByteArray) (w:World) (hr:Kd.C Kd.string w A a.length a) (hc:a.length≤c) (hs:Kd.C Kd.string w B b.length b) (hd:b.length≤d) (hl:a.length≤8796093022208) :
  Calls Tryz.prog 35 #[.slice A a.length c,.slice B b.length d] w fun e w'=>e=.returned (.bool (decide (cmpP a b<0)))∧∃ n,w'=w.drewN n:=by
 have HR:=Lib.hid hr
 have HS:=Lib.hid hs
 have hK1:=both_le_left a b
 have hK2:=both_le_right a b
 have hcb:=cmpP_both a b
 have HEQ:Hid (∀ j (h1:j<a.length) (h2:j<b.length),j<both a b→a[j]=b[j]):=Lib.hid (fun j h1 h2 h3=>both_getK a b j h1 h2 h3)
 have HNE:Hid (∀ (h1:both a b<a.length) (h2:both a b<b.length),a[both a b]≠b[both a b]):=Lib.hid (fun h1 h2=>both_neK a b _ rfl h1 h2)
 generalize both a b=K at *
 have HCB:=Lib.hid hcb
 obtain ⟨r,hrr⟩:∃ r,decide (cmpP a b<0)=r:=⟨_,rfl⟩
 rw [hrr]
 have HE:=Lib.hid hrr
 clear hr hs hrr hcb
 go_enter Tryz.func35,Tryz.ntmps35
 go_wp2_with fail
 go_loopw [5] (fun i wr=>∃ k n:Nat,k≤K∧i=.int .i64 k∧wr=w.drewN n) (fun i _=>a.length - (RowKit.intOf i).toNat)
 case atStart=>exact ⟨0,0,by omega,rfl,rfl⟩
 case round =>
  obtain ⟨k,n,hk,rfl,rfl⟩:=hrel
  by_cases q1:k<a.length
  ·have g1:(k:Int)<(a.length:Int):=by omega
   by_cases q2:k<b.length
   ·have g2:(k:Int)<(b.length:Int):=by omega
    obtain ⟨ad,rfl,hx⟩:=Kd.at_string HR.out (k:Int) (by omega) (by omega)
    obtain ⟨bd,rfl,hy⟩:=Kd.at_string HS.out (k:Int) (by omega) (by omega)
    rw [Int.toNat_natCast] at hx hy
    have hxe:rdOf ByteArray.empty a (k:Int)=a[k]:=by simp [rdOf,q1]
    have hye:rdOf ByteArray.empty b (k:Int)=b[k]:=by simp [rdOf,q2]
    rw [hxe] at hx
    rw [hye] at hy
    by_cases q4:k<K
    ·have H3:=Lib.hid (HEQ.out k q1 q2 q4)
     clear hxe hye
     generalize a[k]=x at *
     generalize b[k]=y at *
     have q3:=H3.out
     have z3:(x.toList == y.toList)=true:=beq_iff_eq.2 (toList_inj.2 q3)
     have z4:(x.toList != y.toList)=false:=by rw [bne,z3];rfl
     clear q3
     go_wp2_with fail
     go_quiet (fail)
     go_wp2_with fail
     go_roundw
     case rel=>exact ⟨k+1,_,by omega,by go_num,by first | rfl | (simp only [World.drewN_drewN];rfl)⟩
     case measure=>simp [RowKit.intOf];omega
    ·obtain rfl:k=K:=by omega
     have hne:=HNE.out q1 q2
     have hcb:=HCB.out
     rw [dif_pos ⟨q1,q2⟩] at hcb
     have hr:=HE.out
     rw [hcb,← pr_less] at hr
     clear hxe hye hcb
     generalize a[k]=x at *
     generalize b[k]=y at *
     have z3:(x.toList == y.toList)=false:=beq_eq_false_iff_ne.2 (fun h=>hne (toList_inj.1 h))
     have z4:(x.toList != y.toList)=true:=by rw [bne,z3];rfl
     have HR2:=Lib.hid (show Op.bytesLess x.toList y.toList=r by rw [Lib.toList_data,Lib.toList_data];exact hr)
     clear hr hne
     go_wp2_with fail
     go_quiet (fail)
     go_wp2_with fail
     go_quiet (fail)
     go_wp2_with fail
     go_ret
     exact ⟨by rw [← HR2.out];rfl,_,by first | rfl | (simp only [World.drewN_drewN];rfl)⟩
   ·have hr:=HE.out
    rw [HCB.out,dif_neg (fun h=>q2 (by omega))] at hr
    have g2:¬ (k:Int)<(b.length:Int):=by omega
    have HR2:=Lib.hid (show decide ((a.length:Int)<(b.length:Int))=r by
     rw [← hr,decide_eq_decide]
     exact (cmpInt_neg _ _).symm)
    clear hr
    go_wp2_with fail
    go_ret
    exact ⟨by rw [← HR2.out];first | rfl | simp,n,rfl⟩
  ·have hr:=HE.out
   rw [HCB.out,dif_neg (fun h=>q1 (by omega))] at hr
   have g1:¬ (k:Int)<(a.length:Int):=by omega
   have HR2:=Lib.hid (show decide ((a.length:Int)<(b.length:Int))=r by
    rw [← hr,decide_eq_decide]
    exact (cmpInt_neg _ _).symm)
   clear hr
   go_wp2_with fail
   go_ret
   exact ⟨by rw [← HR2.out];first | rfl | simp,n,rfl⟩
end Go.Proofs.YtdnhjnlhmfajnaaGreatDoor.G
end
end
