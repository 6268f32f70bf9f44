import Derived.Test.YthlcjjhfkldmhaaGreatDoorTBelow
import Derived.Lib.AppendStr
import Derived.Lib.Builder
import Derived.Handy
import Derived.Laws.IdiomStrings
import Derived.Laws.Rows
import Derived.Lib.BufferRead
import Derived.Lib.IndexMore
import Derived.WideMake
import Derived.Carry
import Derived.Test.YthlcjjhfkldmhaaGreatDoorTCopy
import Derived.Lib.CountLaws
import Derived.Lib.CutLaws
import Derived.Lib.Split
import Derived.Laws.IdiomRangeMap
import Derived.Test.YthlcjjhfkldmhaaGreatDoorTEachX
import Derived.Test.YthlcjjhfkldmhaaGreatDoorTShown
import Derived.Test.YthlcjjhfkldmhaaGreatDoorTStore
set_option linter.unusedVariables false
set_option linter.unusedSimpArgs false
section
namespace Go.Proofs.YthlcjjhfkldmhaaGreatDoor.G
open Go.RowKit Go.Lib Go.Proofs.YthlcjjhfkldmhaaGreatDoorW.PrintWords Go.Proofs.YthlcjjhfkldmhaaGreatDoorW.PrintLast
set_option linter.unusedVariables false
def shortL:List UInt8:=[0,0,0,0,0,0,0,97,98,116,110,118,102,114]
def o1 (x:UInt8):UInt8:=(48:UInt8)+(x >>> 6)
def o2 (x:UInt8):UInt8:=(48:UInt8)+((x >>> 3) &&& 7)
def o3 (x:UInt8):UInt8:=(48:UInt8)+(x &&& 7)
def toldB (c:UInt8):List UInt8:=if c=92 then [92,92] else if shortL.getD c.toNat 0≠0 then [92,shortL.getD c.toNat 0] else if c<32∨127≤c then [92,o1 c,o2 c,o3 c] else [c]
end Go.Proofs.YthlcjjhfkldmhaaGreatDoor.G
end
section
section
namespace Go.Proofs.YthlcjjhfkldmhaaGreatDoor.G
open Go.RowKit Go.Lib Go.Proofs.YthlcjjhfkldmhaaGreatDoorW.PrintWords Go.Proofs.YthlcjjhfkldmhaaGreatDoorW.PrintLast
set_option linter.unusedVariables false
def fourB (b:Nat):Bool:=(toldB (UInt8.ofNat b)).length == 4
def goesB (n k:Nat):Bool:=(List.range 256).any fun b=>fourB b && b / 8 ^ (2 - k) == n
def octR:Nat→Nat→List UInt8→Option Nat
 | 0,n,_=>some n
 | _+1,_,[]=>none
 | r+1,n,d :: l=>if 48≤d.toNat∧d.toNat≤55∧goesB (8 * n+(d.toNat - 48)) (2 - r)=true then octR r (8 * n+(d.toNat - 48)) l else none
def escL (d:UInt8):Option UInt8:=if d=92 then some 92 else ((List.range 14).find? fun x=>shortL.getD x 0 != 0 && shortL.getD x 0 == d).map UInt8.ofNat
def oneL:List UInt8→Option (UInt8×Nat)
 | []=>none
 | c :: r=>if c=92 then (match r with
  | []=>none
  | d :: _=>if d=34 then some (34,2) else match escL d with
   | some b=>some (b,2)
   | none=>(octR 3 0 r).map fun n=>(UInt8.ofNat n,4)) else if 32≤c.toNat∧c.toNat<127∧c.toNat≠34 then some (c,1) else none
end Go.Proofs.YthlcjjhfkldmhaaGreatDoor.G
end
section
namespace Go.Proofs.YthlcjjhfkldmhaaGreatDoor.G
open Go.RowKit Go.Lib Go.Proofs.YthlcjjhfkldmhaaGreatDoorW.PrintWords Go.Proofs.YthlcjjhfkldmhaaGreatDoorW.PrintLast
set_option linter.unusedVariables false
def unqW (l:List UInt8) (i:Nat) (out:List UInt8):Option (List UInt8×Nat):=match l with
 | []=>none
 | c :: r=>if c=34 then some (out,i+1) else match oneL (c :: r) with
  | none=>none
  | some (b,m)=>unqW (r.drop (m - 1)) (i+m) (out++[b])
termination_by l.length
decreasing_by simp only [List.length_drop,List.length_cons];omega
def unq (s:ByteArray):Option (List UInt8×Nat):=match s.data.toList with
 | []=>none
 | c :: r=>if c=34 then unqW r 1 [] else none
end Go.Proofs.YthlcjjhfkldmhaaGreatDoor.G
end
end
section
section
namespace Go.Proofs.YthlcjjhfkldmhaaGreatDoor.G
open Go.RowKit Go.Lib Go.Proofs.YthlcjjhfkldmhaaGreatDoorW.PrintWords Go.Proofs.YthlcjjhfkldmhaaGreatDoorW.PrintLast
set_option linter.unusedVariables false
def cutB (c:UInt8):List UInt8→Option (List UInt8×List UInt8)
 | []=>none
 | b :: r=>if b=c then some ([],r) else (cutB c r).map fun x=>(b :: x.1,x.2)
end Go.Proofs.YthlcjjhfkldmhaaGreatDoor.G
end
section
section
namespace Go.Proofs.YthlcjjhfkldmhaaGreatDoor.G
open Go.RowKit Go.Shelf Go.Lib Go.Proofs.YthlcjjhfkldmhaaGreatDoorW.PrintWords Go.Proofs.YthlcjjhfkldmhaaGreatDoorW.PrintLast
set_option linter.unusedVariables false
def wDir:ByteArray:=⟨#[100,105,114]⟩
def wText:ByteArray:=⟨#[116,101,120,116]⟩
def wLink:ByteArray:=⟨#[108,105,110,107]⟩
end Go.Proofs.YthlcjjhfkldmhaaGreatDoor.G
end
section
namespace Go.Proofs.YthlcjjhfkldmhaaGreatDoor.G
open Go.RowKit Go.Lib Go.Proofs.YthlcjjhfkldmhaaGreatDoorW.PrintWords Go.Proofs.YthlcjjhfkldmhaaGreatDoorW.PrintLast
set_option linter.unusedVariables false
def kindOf (x:ByteArray):Int:=if x.toList == wDir.toList then 1 else if x.toList == wText.toList then 2 else if x.toList == wLink.toList then 3 else 0
structure RowR where
 kind:Int
 data:ByteArray
 path:ByteArray
 rule:Int
def badR (k:Int):RowR:=⟨0,⟨#[]⟩,⟨#[]⟩,k⟩
def mkS (l:List UInt8):ByteArray:=⟨l.toArray⟩
def dataR (k:Int) (p:List UInt8):List UInt8→RowR
 | []=>badR 2
 | c :: r=>if c=32 then (match unq (mkS r) with
  | some x=>if r.drop x.2=[] then ⟨k,mkS x.1,mkS p,0⟩ else badR 2
  | none=>badR 2) else badR 2
def restR (k:Int) (r:List UInt8):RowR:=match unq (mkS r) with
 | some x=>if k=1 then (if r.drop x.2=[] then ⟨1,⟨#[]⟩,mkS x.1,0⟩ else badR 2) else dataR k x.1 (r.drop x.2)
 | none=>badR 2
def readR (s:ByteArray):RowR:=match cutB 32 s.data.toList with
 | none=>badR 1
 | some x=>if kindOf (mkS x.1)=0 then badR 1 else restR (kindOf (mkS x.1)) x.2
end Go.Proofs.YthlcjjhfkldmhaaGreatDoor.G
end
end
end
section
section
namespace Go.Proofs.YthlcjjhfkldmhaaGreatDoor.G
open Go.RowKit Go.Lib Go.Proofs.YthlcjjhfkldmhaaGreatDoorW.PrintWords Go.Proofs.YthlcjjhfkldmhaaGreatDoorW.PrintLast
set_option linter.unusedVariables false
theorem shownS_snoc (p:List ByteArray) (n:ByteArray):(shownS (p++[n])).size=(shownS p).size+(1+n.size):=by
 simp only [shownS,List.foldl_append,List.foldl_cons,List.foldl_nil,ByteArray.size_append]
 rfl
theorem bulkL_cons (x:File) (l:List File):bulkL (x :: l)=x.bulk+bulkL l:=by simp [bulkL]
mutual
theorem preF_bound:∀ (f:File) (p:List ByteArray) (y:List ByteArray×File),y∈preF p f→(shownS y.1).size+y.2.data.size+bulkL y.2.files≤(shownS p).size+bulkL f.files∧y.1.length+bulkL y.2.files≤p.length+bulkL f.files
 | ⟨n,k,d,l⟩,p,y,h=>by
  rw [preF] at h
  exact preL_bound l p y h
theorem preL_bound:∀ (l:List File) (p:List ByteArray) (y:List ByteArray×File),y∈preL p l→(shownS y.1).size+y.2.data.size+bulkL y.2.files≤(shownS p).size+bulkL l∧y.1.length+bulkL y.2.files≤p.length+bulkL l
 | [],p,y,h=>by simp [preL] at h
 | x :: l,p,y,h=>by
  rw [preL] at h
  rw [bulkL_cons]
  have hb:=bulk_eq x
  rcases List.mem_cons.1 h with rfl | h
  ·have hs:=shownS_snoc p x.name
   simp only [List.length_append,List.length_cons,List.length_nil]
   omega
  ·rcases List.mem_append.1 h with h | h
   ·have h1:=preF_bound x _ y h
    have hs:=shownS_snoc p x.name
    simp only [List.length_append,List.length_cons,List.length_nil] at h1
    omega
   ·have h1:=preL_bound l p y h
    omega
end
mutual
theorem preF_count:∀ (f:File) (p:List ByteArray),4 * (preF p f).length≤bulkL f.files
 | ⟨n,k,d,l⟩,p=>by
  rw [preF]
  exact preL_count l p
theorem preL_count:∀ (l:List File) (p:List ByteArray),4 * (preL p l).length≤bulkL l
 | [],p=>by simp [preL]
 | x :: l,p=>by
  rw [preL,bulkL_cons]
  have hb:=bulk_eq x
  have h1:=preF_count x (p++[x.name])
  have h2:=preL_count l p
  simp only [List.length_cons,List.length_append]
  omega
end
end Go.Proofs.YthlcjjhfkldmhaaGreatDoor.G
end
section
section
namespace Go.Proofs.YthlcjjhfkldmhaaGreatDoor.G
open Go.RowKit Go.Lib Go.Proofs.YthlcjjhfkldmhaaGreatDoorW.PrintWords Go.Proofs.YthlcjjhfkldmhaaGreatDoorW.PrintLast
set_option linter.unusedVariables false
theorem goP_step {f:File} {n:ByteArray} {q:List ByteArray} {d:File} {k:Int} (h:goP f (n :: q)=(k,some d)):∃ x,f.files[lowB f.files n]? = some x∧x.name=n∧goP x q=(k,some d):=by
 rw [goP] at h
 split at h
 ·split at h
  ·rename_i x hx
   split at h
   ·rename_i he
    exact ⟨x,hx,toList_inj.1 (eq_of_beq he),h⟩
   ·cases h
  ·cases h
 ·cases h
theorem putP_name:∀ (q:List ByteArray) (f y d:File) (k:Int),goP f q=(k,some d)→y.name=d.name→(putP f q y).name=f.name
 | [],f,y,d,k,h,hy=>by
  rw [goP] at h
  injection h with _ h
  injection h with h
  subst h
  rw [putP]
  exact hy
 | n :: q,f,y,d,k,h,hy=>(putP_keep f n q y).1
theorem bulkL_set {l:List File} {i:Nat} {x x':File} (hx:l[i]? = some x):bulkL (l.set i x')+x.bulk=bulkL l+x'.bulk:=by
 induction l generalizing i with
 | nil=>simp at hx
 | cons z l ih =>
  cases i with
  | zero =>
   obtain rfl:z=x:=by simpa using hx
   simp only [List.set_cons_zero,bulkL_cons]
   omega
  | succ i =>
   have:=ih (i:=i) (by simpa using hx)
   simp only [List.set_cons_succ,bulkL_cons]
   omega
theorem bulk_put:∀ (q:List ByteArray) (f y d:File) (k:Int),goP f q=(k,some d)→(putP f q y).bulk+d.bulk=f.bulk+y.bulk
 | [],f,y,d,k,h=>by
  rw [goP] at h
  injection h with _ h
  injection h with h
  subst h
  rw [putP]
  omega
 | n :: q,f,y,d,k,h=>by
  obtain ⟨x,hx,hxn,hg⟩:=goP_step h
  have ih:=bulk_put q x y d k hg
  have h1:=bulkL_set (x':=putP x q y) hx
  have e1:=bulk_eq f
  have e2:=bulk_eq (putP f (n :: q) y)
  have e3:(putP f (n :: q) y).files=f.files.set (lowB f.files n) (putP x q y):=by rw [putP,hx]
  obtain ⟨k1,k2,k3⟩:=putP_keep f n q y
  rw [e3,k1,k3] at e2
  omega
end Go.Proofs.YthlcjjhfkldmhaaGreatDoor.G
end
section
namespace Go.Proofs.YthlcjjhfkldmhaaGreatDoor.G
open Go.RowKit Go.Lib Go.Proofs.YthlcjjhfkldmhaaGreatDoorW.PrintWords Go.Proofs.YthlcjjhfkldmhaaGreatDoorW.PrintLast
set_option linter.unusedVariables false
mutual
theorem FT_cells (B:Nat):∀ (x:File) (w:World) (v:Value) (bl:List Nat),FT B x w v bl→∀ k∈bl,∃ cs,w.heap[k]? = some (.cells cs 25 (0,0))
 | ⟨_,_,_,l⟩,w,v,bl,h=>by
  rw [FT] at h
  rcases h with ⟨_,_,rfl⟩ | ⟨g,inner,bs,hv,rfl,ho,hl⟩
  ·intro k hk;cases hk
  ·intro k hk
   rcases List.mem_cons.1 hk with rfl | hk
   ·rcases ho.2 with ⟨hv0,_⟩ | ⟨g',cap,cur,hvv,hb,hg,hnc,hcm,hcs,htake⟩
    ·rw [hv0] at hv
     simp [Value.ownBlock] at hv
    ·rw [hvv] at hv
     injection hv with hv
     subst hv
     exact ⟨_,hg⟩
   ·exact LT_cells B l w inner bs hl k hk
theorem LT_cells (B:Nat):∀ (l:List File) (w:World) (inner:List Value) (bs:List Nat),LT B l w inner bs→∀ k∈bs,∃ cs,w.heap[k]? = some (.cells cs 25 (0,0))
 | [],w,inner,bs,h=>by
  rw [LT] at h
  obtain ⟨_,rfl⟩:=h
  intro k hk;cases hk
 | x :: l,w,inner,bs,h=>by
  rw [LT] at h
  obtain ⟨v,bx,br,rest,h1,rfl,h3,h4⟩:=h
  intro k hk
  rcases List.mem_append.1 hk with hk | hk
  ·exact FT_cells B x w v bx h3 k hk
  ·exact LT_cells B l w rest br h4 k hk
end
theorem FT_own {B:Nat} {d:File} {W:World} {v:Value} {bl:List Nat} (h:FT B d W v bl) (hN:bl.Nodup) :
  ∃ inner bs,W.ownsRow B 25 4 v d.files.length inner∧LT B d.files W inner bs∧bs.Nodup∧(∀ k∈bs,k∈bl∧v.ownBlock≠some k)∧(∀ k,v.ownBlock=some k→k∈bl):=by
 rw [FT_eq] at h
 rcases h with ⟨h0,rfl,rfl⟩ | ⟨g,inner,bs,hv,rfl,ho,hL⟩
 ·exact ⟨[],[],(by rw [h0];exact own_nil _ _ _ _),(by rw [h0,LT];exact ⟨rfl,rfl⟩),List.nodup_nil,(fun k hk=>absurd hk List.not_mem_nil),(fun k hk=>by cases hk)⟩
 ·have hn:=List.nodup_cons.1 hN
  refine ⟨inner,bs,ho,hL,hn.2,fun k hk=>⟨List.mem_cons_of_mem _ hk,fun e => ?_⟩,fun k hk => ?_⟩
  ·rw [hv] at e
   injection e with e
   exact hn.1 (e ▸ hk)
  ·rw [hv] at hk
   injection hk with hk
   rw [hk]
   exact List.mem_cons_self
end Go.Proofs.YthlcjjhfkldmhaaGreatDoor.G
end
end
section
namespace Go.Proofs.YthlcjjhfkldmhaaGreatDoor.G
open Go.RowKit Go.Lib Go.Proofs.YthlcjjhfkldmhaaGreatDoorW.PrintWords Go.Proofs.YthlcjjhfkldmhaaGreatDoorW.PrintLast
set_option linter.unusedVariables false
set_option linter.unusedSimpArgs false
section
variable {t:File} {last p:List ByteArray} {tx:ByteArray} {rr:RowR} (hr:readR tx=rr) (h0:rr.rule=0)
include hr h0
end
theorem Only.grown_of {w w':World} {row:Option Nat} (h:w.grownBy w' row):Only (fun k=>row=some k) w w':=⟨h.os,h.tape,h.output,h.size,fun k hk hn=>h.block k hk (fun e=>hn e.symm)⟩
theorem Only.drew {F:Nat→Prop} {X Y:World} (h:Only F X Y):Only F X Y.drew:=⟨h.os,h.tape,h.output,h.size,h.block⟩
theorem setCell_same {W W':World} (p:Addr) (v:Value) (h:W.heap[p.block]? = W'.heap[p.block]?):(W.setCell p v).heap[p.block]? = (W'.setCell p v).heap[p.block]? := by
 simp [World.setCell,Array.getElem?_modify,h]
end Go.Proofs.YthlcjjhfkldmhaaGreatDoor.G
end
end
