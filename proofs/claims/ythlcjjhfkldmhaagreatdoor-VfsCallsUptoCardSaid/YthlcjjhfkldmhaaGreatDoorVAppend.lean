import Derived.Test.YthlcjjhfkldmhaaGreatDoorVWalkS
import Derived.Test.YthlcjjhfkldmhaaGreatDoorVTurns
import Derived.Test.YthlcjjhfkldmhaaGreatDoorTCopy
import Derived.WideMake
import Derived.Carry
import Derived.MapKept
import Derived.Test.YthlcjjhfkldmhaaGreatDoorVWalk
import Derived.Test.YthlcjjhfkldmhaaGreatDoorTRight
import Derived.Test.YthlcjjhfkldmhaaGreatDoorKit
import Derived.Test.YthlcjjhfkldmhaaGreatDoorSq
set_option linter.unusedVariables false
set_option linter.unusedSimpArgs false
section
namespace Go.Proofs.YthlcjjhfkldmhaaGreatDoor.G
open Go.RowKit Go.Lib Go.Proofs.YthlcjjhfkldmhaaGreatDoorW.PrintWords Go.Proofs.YthlcjjhfkldmhaaGreatDoorW.PrintLast
set_option linter.unusedVariables false
structure Call where
  kind:Int
  path:List ByteArray
  dest:List ByteArray
  why:Int
structure Req where
  p:List ByteArray
  dest:List ByteArray
  data:ByteArray
structure Told where
  kind:Int
  size:Int
  data:ByteArray
def told0 (d:ByteArray):Told:=⟨0,0,d⟩
def textF (d:ByteArray):File:=⟨⟨#[]⟩,2,d,[]⟩
def putV (t:File) (p:List ByteArray) (s:File):File×Int:=if (putA t p s).2=0 then putA t p s else (t,(putA t p s).2)
def lstatR (t:File) (x:Req):File×Told×Int :=
  let r:=walkR t x.p false
  if r.2.2.2=0 then (if r.2.2.1=true then (t,⟨r.2.1.kind,r.2.1.data.size,x.data⟩,0) else (t,told0 x.data,31)) else (t,told0 x.data,r.2.2.2)
def readV (t:File) (x:Req):File×Told×Int :=
  let r:=walkR t x.p true
  if r.2.2.2=0 then (if r.2.2.1=true then (if r.2.1.kind=1 then (t,told0 x.data,40) else (t,told0 r.2.1.data,0)) else (t,told0 x.data,31)) else (t,told0 x.data,r.2.2.2)
def createR (t:File) (x:Req):File×Told×Int :=
  let r:=walkR t x.p true
  if r.2.2.2=0 then (if r.2.2.1=true∧r.2.1.kind=1 then (t,told0 x.data,40) else ((putV t r.1 (textF ⟨#[]⟩)).1,told0 x.data,(putV t r.1 (textF ⟨#[]⟩)).2)) else (t,told0 x.data,r.2.2.2)
def appendR (t:File) (x:Req):File×Told×Int :=
  let r:=walkR t x.p true
  if r.2.2.2=0 then (if r.2.2.1=true then (if r.2.1.kind=1 then (t,told0 x.data,40) else ((putV t r.1 (textF (r.2.1.data++x.data))).1,told0 x.data,(putV t r.1 (textF (r.2.1.data++x.data))).2)) else (t,told0 x.data,31)) else (t,told0 x.data,r.2.2.2)
def renameR (t:File) (x:Req):File×Told×Int :=
  let r:=walkR t x.p false
  if r.2.2.2=0 then (if r.2.2.1=true then (if r.2.1.kind=1 then (t,told0 x.data,40) else
      (let q:=walkR t x.dest false
       if q.2.2.2=0 then (if q.2.2.1=true∧q.2.1.kind=1 then (t,told0 x.data,40) else
          (if r.1=q.1 then (t,told0 x.data,0) else
            (let d:=dropA t r.1
             if d.2=0 then (let u:=putA d.1 q.1 r.2.1
               if u.2=0 then (u.1,told0 x.data,0) else (t,told0 x.data,u.2)) else (t,told0 x.data,d.2))))
       else (t,told0 x.data,q.2.2.2)))
    else (t,told0 x.data,31)) else (t,told0 x.data,r.2.2.2)
def opR (kind:Int):File→Req→File×Told×Int :=
  if kind=1 then lstatR else if kind=2 then readV else if kind=3 then createR else if kind=4 then appendR else renameR
structure FsV where
  tree:File
  trace:List Call
  faults:List Int
def callV (f:FsV) (kind:Int) (x:Req):FsV×Told×Int :=
  if P.rightB x.p=true∧P.rightB x.dest=true then
    (let r:=if (f.trace.length:Int)∈f.faults then (f.tree,told0 x.data,42) else opR kind f.tree x
     ({f with tree:=r.1,trace:=f.trace++[⟨kind,x.p,if kind=5 then x.dest else [],r.2.2⟩]},r.2.1,r.2.2))
  else (f,told0 x.data,20)
end Go.Proofs.YthlcjjhfkldmhaaGreatDoor.G
end
section
namespace Go.Proofs.YthlcjjhfkldmhaaGreatDoor.G
open Go.RowKit Go.Lib Go.Proofs.YthlcjjhfkldmhaaGreatDoorW.PrintWords Go.Proofs.YthlcjjhfkldmhaaGreatDoorW.PrintLast
set_option linter.unusedVariables false
def CallK:Kd Call:=Kd.iso (Kd.pair (Kd.int .u8) (Kd.pair (Kd.slice 9 Kd.string) (Kd.pair (Kd.slice 9 Kd.string) (Kd.int .i64)))) (fun x:Call=>(x.kind,x.path,x.dest,x.why))
theorem call_open {w:World} {x:Call} {cs:List Value} (h:CallK.K w x cs):∃ A c B d,cs=[.int .u8 x.kind,.slice A x.path.length c,.slice B x.dest.length d,.int .i64 x.why]∧x.path.length≤c∧Kd.C Kd.string w A x.path.length x.path∧x.dest.length≤d∧Kd.C Kd.string w B x.dest.length x.dest:=by
 obtain ⟨_,_,rfl,rfl,⟨_,_,rfl,⟨A,c,rfl,l,g⟩,⟨_,_,rfl,⟨B,d,rfl,m,k⟩,rfl⟩⟩⟩:=h
 exact ⟨A,c,B,d,rfl,l,g,m,k⟩
theorem call_mkM (w:World) (base:Nat) (ok:Nat→Prop) (x:Call) {v u:Value} (g:Kd.R Kd.string 9 w base ok v x.path) (k:Kd.R Kd.string 9 w base ok u x.dest):CallK.M w base ok x [.int .u8 x.kind,v,u,.int .i64 x.why] :=
 ⟨[.int .u8 x.kind],[v,u,.int .i64 x.why],rfl,rfl,⟨[v],[u,.int .i64 x.why],rfl,⟨v,rfl,g⟩,⟨[u],[.int .i64 x.why],rfl,⟨u,rfl,k⟩,rfl⟩⟩⟩
end Go.Proofs.YthlcjjhfkldmhaaGreatDoor.G
end
section
section
namespace Go.Proofs.YthlcjjhfkldmhaaGreatDoor.G
open Go.RowKit Go.Shelf Go.Lib Go.Proofs.YthlcjjhfkldmhaaGreatDoorW.PrintWords
set_option linter.unusedVariables false
def Faulted (W:World) (m:Nat) (l:List Int):Prop:=∃ es clock,W.heap[m]? = some (.map es clock)∧(∀ x∈es.toList,∃ k,x.key=.int .i64 k∧x.val=.bool true)∧∀ n:Int,(∃ x∈es.toList,x.key=.int .i64 n)↔n∈l
theorem Faulted.mv {W W':World} {m:Nat} {l:List Int} (h:Faulted W m l) (hm:W'.heap[m]? = W.heap[m]?):Faulted W' m l:=by
 obtain ⟨es,clock,h1,h2⟩:=h
 exact ⟨es,clock,hm.trans h1,h2⟩
theorem Faulted.lt {W:World} {m:Nat} {l:List Int} (h:Faulted W m l):m<W.heap.size:=by
 obtain ⟨es,clock,h1,h2⟩:=h
 rcases Nat.lt_or_ge m W.heap.size with hg | hg
 ·exact hg
 ·rw [Array.getElem?_eq_none hg] at h1;cases h1
theorem fault_find (n:Int):∀ (es:List MapEntry) (i:Nat),(∀ x∈es,∃ k,x.key=.int .i64 k∧x.val=.bool true) →
  (∃ j,Instr.findNow (.int .i64) (.int .i64 n) es i=some (some (i+j,.bool true))∧∃ x,es[j]? = some x∧x.key=.int .i64 n)∨(Instr.findNow (.int .i64) (.int .i64 n) es i=some none∧∀ x∈es,x.key ≠ .int .i64 n)
 | [],i,_=>.inr ⟨rfl,fun x hx=>by cases hx⟩
 | x :: es,i,h=>by
  obtain ⟨k,hk,hv⟩:=h x List.mem_cons_self
  by_cases he:n=k
  ·subst he
   have hs:Instr.sameNow (.int .i64) (.int .i64 n) x.key=some true:=by rw [hk];simp [Instr.sameNow]
   exact .inl ⟨0,by simp only [Instr.findNow,hs,hv];rfl,x,rfl,hk⟩
  ·have hs:Instr.sameNow (.int .i64) (.int .i64 n) x.key=some false:=by rw [hk];simp [Instr.sameNow,he]
   rcases fault_find n es (i+1) (fun y hy=>h y (List.mem_cons_of_mem _ hy)) with ⟨j,h1,y,h2,h3⟩ | ⟨h1,h2⟩
   ·exact .inl ⟨j+1,by simp only [Instr.findNow,hs];rw [h1,show i+1+j=i+(j+1) by omega],y,h2,h3⟩
   ·refine .inr ⟨by simp only [Instr.findNow,hs];exact h1,fun y hy => ?_⟩
    rcases List.mem_cons.1 hy with rfl | hy
    ·rw [hk]
     intro e
     injection e with _ e
     exact he e.symm
    ·exact h2 y hy
theorem fault_lookup {W:World} {m:Nat} {l:List Int} (h:Faulted W m l) (n:Int) :
  (Instr.lookup 66 (.map (some m)) (.int .i64 n) false).run Tryz.prog W=.ok (.bool (decide (n∈l))) W:=by
 obtain ⟨es,clock,hb,hs,hl⟩:=h
 have hc:∀ b,(Instr.checkKey b 10000 3 (.int .i64 n)).run Tryz.prog W=.ok () W:=fun b=>MapKept.run_checkKey Tryz.underlying3 (by simp [MapKept.IsKey]) b 9999
 have hz:(zeroValue 4).run Tryz.prog W=.ok (.bool false) W:=by kernel_rfl
 rcases fault_find n es.toList 0 hs with ⟨j,hf,x,hx,hk⟩ | ⟨hf,hn⟩
 ·have hm:n∈l:=(hl n).1 ⟨x,List.mem_of_getElem? hx,hk⟩
  simp [Instr.lookup,run_underlying Tryz.underlying66,MapKept.run_getObj_map hb,hc,MapKept.run_findKey Tryz.underlying3 hf,Result.andThen,hm]
 ·have hm:n ∉ l:=fun h=>by
   obtain ⟨x,hx,hk⟩:=(hl n).2 h
   exact hn x hx hk
  simp [Instr.lookup,run_underlying Tryz.underlying66,MapKept.run_getObj_map hb,hc,MapKept.run_findKey Tryz.underlying3 hf,Result.andThen,hm,hz]
theorem mem_modify {es:Array MapEntry} {j:Nat} {f:MapEntry→MapEntry} {y:MapEntry} (h:y∈(es.modify j f).toList):y∈es.toList∨∃ z∈es.toList,y=f z:=by
 obtain ⟨i,hi⟩:=List.getElem?_of_mem h
 rw [Array.getElem?_toList,Array.getElem?_modify] at hi
 by_cases hij:j=i
 ·rw [if_pos hij] at hi
  cases hz:es[i]? with
  | none=>rw [hz] at hi;cases hi
  | some z =>
   rw [hz] at hi
   injection hi with hi
   rw [← Array.getElem?_toList] at hz
   exact .inr ⟨z,List.mem_of_getElem? hz,hi.symm⟩
 ·rw [if_neg hij,← Array.getElem?_toList] at hi
  exact .inl (List.mem_of_getElem? hi)
theorem fault_update {W:World} {m:Nat} {l:List Int} (h:Faulted W m l) (n:Int) :
  ∃ o,(Instr.mapUpdate 66 (.map (some m)) (.int .i64 n) (.bool true)).run Tryz.prog W=.ok () (W.putObj m o)∧Faulted (W.putObj m o) m (n :: l):=by
 have hlt:=h.lt
 obtain ⟨es,clock,hb,hs,hl⟩:=h
 have hc:∀ b,(Instr.checkKey b 10000 3 (.int .i64 n)).run Tryz.prog W=.ok () W:=fun b=>MapKept.run_checkKey Tryz.underlying3 (by simp [MapKept.IsKey]) b 9999
 rcases fault_find n es.toList 0 hs with ⟨j,hf,x,hx,hk⟩ | ⟨hf,hn⟩
 ·rw [Nat.zero_add] at hf
  have hks:=MapKept.run_keyThatStays (P:=Tryz.prog) (w:=W) (d:=.int .i64) (k:=.int .i64 n) (by simp [MapKept.IsKey])
  have hxa:es[j]? = some x:=by rw [← Array.getElem?_toList];exact hx
  have hj:j<es.size:=(Array.getElem?_eq_some_iff.1 hxa).1
  refine ⟨.map (es.modify j fun e=>{e with key:=.int .i64 n,val:=.bool true}) clock,?_,?_⟩
  ·simp [Instr.mapUpdate,run_underlying Tryz.underlying66,MapKept.run_getObj_map hb,hc,MapKept.run_findKey Tryz.underlying3 hf,hxa,hk,hks,MapKept.run_setObj_map _ hb,Result.andThen,World.putObj]
  ·refine ⟨_,clock,World.putObj_heap_same hlt,?_,?_⟩
   ·intro y hy
    rcases mem_modify hy with hy | ⟨z,hz,rfl⟩
    ·exact hs y hy
    ·exact ⟨n,rfl,rfl⟩
   ·intro k
    rw [List.mem_cons,← hl k]
    constructor
    ·rintro ⟨y,hy,hk2⟩
     rcases mem_modify hy with hy | ⟨z,hz,rfl⟩
     ·exact .inr ⟨y,hy,hk2⟩
     ·injection hk2 with _ hk2
      exact .inl hk2.symm
    ·have hme:({x with key:=.int .i64 n,val:=.bool true}:MapEntry)∈(es.modify j fun e=>{e with key:=.int .i64 n,val:=.bool true}).toList:=by
      have h1:(es.modify j fun e=>{e with key:=.int .i64 n,val:=.bool true})[j]? = some {x with key:=.int .i64 n,val:=.bool true}:=by
       rw [Array.getElem?_modify,if_pos rfl,hxa];rfl
      rw [← Array.getElem?_toList] at h1
      exact List.mem_of_getElem? h1
     rintro (rfl | ⟨y,hy,hk2⟩)
     ·exact ⟨_,hme,rfl⟩
     ·obtain ⟨i,hi⟩:=List.getElem?_of_mem hy
      by_cases hij:j=i
      ·subst hij
       have e:y=x:=by
        rw [Array.getElem?_toList,hxa] at hi
        injection hi with hi
        exact hi.symm
       subst e
       rw [hk] at hk2
       injection hk2 with _ hk2
       subst hk2
       exact ⟨_,hme,rfl⟩
      ·refine ⟨y,?_,hk2⟩
       have h1:(es.modify j fun e=>{e with key:=.int .i64 n,val:=.bool true})[i]? = some y:=by
        rw [Array.getElem?_modify,if_neg hij,← Array.getElem?_toList]
        exact hi
       rw [← Array.getElem?_toList] at h1
       exact List.mem_of_getElem? h1
 ·refine ⟨.map (es.push {key:=.int .i64 n,val:=.bool true,born:=clock}) (clock+1),?_,?_⟩
  ·simp [Instr.mapUpdate,run_underlying Tryz.underlying66,MapKept.run_getObj_map hb,hc,MapKept.run_findKey Tryz.underlying3 hf,MapKept.run_setObj_map _ hb,Result.andThen,World.putObj]
  ·refine ⟨_,clock+1,World.putObj_heap_same hlt,?_,?_⟩
   ·intro y hy
    rw [Array.toList_push,List.mem_append,List.mem_singleton] at hy
    rcases hy with hy | rfl
    ·exact hs y hy
    ·exact ⟨n,rfl,rfl⟩
   ·intro k
    rw [Array.toList_push,List.mem_cons,← hl k]
    constructor
    ·rintro ⟨y,hy,hk⟩
     rw [List.mem_append,List.mem_singleton] at hy
     rcases hy with hy | rfl
     ·exact .inr ⟨y,hy,hk⟩
     ·injection hk with _ hk
      exact .inl hk.symm
    ·rintro (rfl | ⟨y,hy,hk⟩)
     ·exact ⟨_,List.mem_append.2 (.inr (List.mem_singleton.2 rfl)),rfl⟩
     ·exact ⟨y,List.mem_append.2 (.inl hy),hk⟩
end Go.Proofs.YthlcjjhfkldmhaaGreatDoor.G
end
section
section
namespace Go.Proofs.YthlcjjhfkldmhaaGreatDoor.G
open Go.RowKit Go.Lib Go.Proofs.YthlcjjhfkldmhaaGreatDoorW.PrintWords Go.Proofs.YthlcjjhfkldmhaaGreatDoorW.PrintLast
set_option linter.unusedVariables false
set_option linter.unusedSimpArgs false
theorem check_why (t:File):(checkR t).1=0∨(checkR t).1=30:=by
 unfold checkR
 split
 ·cases wrongN t.bulk t [] with
  | none=>exact .inl rfl
  | some b=>exact .inr rfl
 ·exact .inr rfl
end Go.Proofs.YthlcjjhfkldmhaaGreatDoor.G
end
section
namespace Go.Proofs.YthlcjjhfkldmhaaGreatDoor.G
open Go.RowKit Go.Lib Go.Proofs.YthlcjjhfkldmhaaGreatDoorW.PrintWords Go.Proofs.YthlcjjhfkldmhaaGreatDoorW.PrintLast
set_option linter.unusedVariables false
set_option linter.unusedSimpArgs false
def fsCells (t:File) (A:Option Addr) (c:Nat) (v:Value) (m:Nat):Array Value:=#[.string t.name,.int .u8 t.kind,.string t.data,.slice A t.files.length c,v,.map (some m)]
def FsAt (w:World) (g:Nat) (O:Nat→Prop) (tb:Option Nat) (f:FsV):Prop:=∃ (A:Option Addr) (c:Nat) (v:Value) (m lo hi:Nat),
 w.heap[g]? = some (.cells (fsCells f.tree A c v m) 68 (0,0))∧f.tree.files.length≤c∧Iv lo hi w (fun W=>FileK.C W A f.tree.files.length f.tree.files)∧(∀ k,lo≤k→k<hi→O k∧k≠g∧tb≠some k) ∧
 CallK.R 79 w 0 O v f.trace∧v.ownBlock=tb∧Faulted w m f.faults∧O m∧∀ k,O k→k<w.heap.size
theorem FsAt.keep {w w':World} {g:Nat} {O:Nat→Prop} {tb:Option Nat} {f:FsV} (h:FsAt w g O tb f) (hk:∀ k,k=g∨O k→w'.heap[k]? = w.heap[k]?) (hs:w.heap.size≤w'.heap.size):FsAt w' g O tb f:=by
 obtain ⟨A,c,v,m,lo,hi,h1,h2,h3,h4,h5,h6,h7,h8,h9⟩:=h
 exact ⟨A,c,v,m,lo,hi,(hk g (.inl rfl)).trans h1,h2,h3.mv fun k a b=>hk k (.inr (h4 k a b).1),h4,Kd.R_move h5 fun k a=>hk k (.inr a),h6,h7.mv (hk m (.inr h8)),h8,fun k a=>Nat.lt_of_lt_of_le (h9 k a) hs⟩
theorem FsAt.lt {w:World} {g:Nat} {O:Nat→Prop} {tb:Option Nat} {f:FsV} (h:FsAt w g O tb f):g<w.heap.size:=by
 obtain ⟨A,c,v,m,lo,hi,h1,_⟩:=h
 exact blk_lt h1
theorem FsAt.below {w w':World} {g:Nat} {O:Nat→Prop} {tb:Option Nat} {f:FsV} (h:FsAt w g O tb f) (hb:Below w.heap.size w w'):FsAt w' g O tb f:=by
 have hl:=h.lt
 have h9:∀ k,O k→k<w.heap.size:=by
  obtain ⟨A,c,v,m,lo,hi,_,_,_,_,_,_,_,_,h9⟩:=h
  exact h9
 exact h.keep (fun k hk=>hb.block k (hk.elim (fun e=>e ▸ hl) (h9 k))) hb.size
theorem FsAt.lts {w:World} {g:Nat} {O:Nat→Prop} {tb:Option Nat} {f:FsV} (h:FsAt w g O tb f):∀ k,O k→k<w.heap.size:=by
 obtain ⟨A,c,v,m,lo,hi,_,_,_,_,_,_,_,_,h9⟩:=h
 exact h9
theorem FsAt.mono {w:World} {g:Nat} {O O':Nat→Prop} {tb:Option Nat} {f:FsV} (h:FsAt w g O tb f) (hO:∀ k,O k→O' k) (hl:∀ k,O' k→k<w.heap.size):FsAt w g O' tb f:=by
 obtain ⟨A,c,v,m,lo,hi,h1,h2,h3,h4,h5,h6,h7,h8,h9⟩:=h
 exact ⟨A,c,v,m,lo,hi,h1,h2,h3,fun k a b=>⟨hO k (h4 k a b).1,(h4 k a b).2⟩,Kd.R_mono h5 hO,h6,h7,hO m h8,hl⟩
theorem Faulted.ne {W:World} {m g:Nat} {l:List Int} {cs:Array Value} {t:TypeId} (h:Faulted W m l) (hb:W.heap[g]? = some (.cells cs t (0,0))):m≠g:=by
 obtain ⟨es,clock,h1,_⟩:=h
 rintro rfl
 rw [h1] at hb
 cases hb
theorem Faulted.iff {W:World} {m:Nat} {l l':List Int} (h:Faulted W m l) (hi:∀ n,n∈l↔n∈l'):Faulted W m l':=by
 obtain ⟨es,clock,h1,h2,h3⟩:=h
 exact ⟨es,clock,h1,h2,fun n=>(h3 n).trans (hi n)⟩
theorem Faulted.made (w:World):Faulted (w.alloc (.map #[] 0)) w.heap.size []:=⟨#[],0,World.alloc_heap_new w _,fun x hx=>by simp at hx,fun n=>by simp⟩
end Go.Proofs.YthlcjjhfkldmhaaGreatDoor.G
end
end
end
section
namespace Go.Proofs.YthlcjjhfkldmhaaGreatDoor.G
open Go.RowKit Go.Lib Go.Proofs.YthlcjjhfkldmhaaGreatDoorW.PrintWords Go.Proofs.YthlcjjhfkldmhaaGreatDoorW.PrintLast
set_option linter.unusedVariables false
set_option linter.unusedSimpArgs false
def bf (n m:Nat):Array Bool:=((List.range n).map (fun j=>m.testBit j)).toArray
theorem store4_box6 {W:World} {g:Nat} {a b c d x y:Value} {t:TypeId} (h:W.heap[g]? = some (.cells #[a,b,c,d,x,y] t (0,0))) (v0 v1 v2 v3:Value) :
  ((((W.setCell ⟨g,0,none⟩ v0).setCell ⟨g,1,none⟩ v1).setCell ⟨g,2,none⟩ v2).setCell ⟨g,3,none⟩ v3).heap[g]? = some (.cells #[v0,v1,v2,v3,x,y] t (0,0)) :=
 blk_put (blk_put (blk_put (blk_put h 0 v0 rfl) 1 v1 rfl) 2 v2 rfl) 3 v3 rfl
theorem Only.of_belowV {X Y:World} (h:Below X.heap.size X Y) (F:Nat→Prop):Only F X Y:=⟨h.os,h.tape,h.output,h.size,fun k hk _=>h.block k hk⟩
theorem only4 (W:World) (g:Nat) (v0 v1 v2 v3:Value):Only (fun k=>k=g) W ((((W.setCell ⟨g,0,none⟩ v0).setCell ⟨g,1,none⟩ v1).setCell ⟨g,2,none⟩ v2).setCell ⟨g,3,none⟩ v3) :=
 (((Only.setCell W ⟨g,0,none⟩ v0).trans (Only.setCell _ ⟨g,1,none⟩ v1) (fun _ _ h=>h) (fun _ _ h=>h)).trans (Only.setCell _ ⟨g,2,none⟩ v2) (fun _ _ h=>h) (fun _ _ h=>h)).trans (Only.setCell _ ⟨g,3,none⟩ v3) (fun _ _ h=>h) (fun _ _ h=>h)
set_option maxHeartbeats 8000000 in
set_option maxRecDepth 100000 in
theorem put_calls_fs (w:World) (g:Nat) (O:Nat→Prop) (tb:Option Nat) (f:FsV) (Ap:Option Addr) (cp:Nat) (p:List ByteArray) (s:File) (As:Option Addr) (cs:Nat) (hfs:FsAt w g O tb f) (hbt:f.tree.bulk≤1000000000) (hp:Kd.C Kd.string w Ap p.length p) (hcp:p.length≤cp) (hpl:p.length≤1000000000) (hn:∀ n∈p,n.size≤1000000000) (hs:FileK.C w As s.files.length s.files) (hcs:s.files.length≤cs) (hbs:s.bulk≤1000000000) :
  Calls Tryz.prog 112 #[.pointer (some ⟨g,0,none⟩),.slice Ap p.length cp,.agg (fc s As cs)] w fun e w'=>e=.returned (.int .i64 (putV f.tree p s).2)∧FsAt w' g (fun k=>O k∨w.heap.size≤k∧k<w'.heap.size) tb {f with tree:=(putV f.tree p s).1}∧Only (fun k=>k=g) w w':=by
 have HFS0:=Lib.hid hfs
 obtain ⟨A,c,v,m,lo,hi,hbox,hle,hiv,hsep,htr,htb,hfl,hOm,hOlt⟩:=hfs
 unfold fsCells at hbox
 have hb0:=below_alloc (Below.refl w.heap.size w) (.cells (fc s As cs) 25)
 have hgl:=blk_lt hbox
 have HS:=Lib.hid (fun W (h:Below w.heap.size w W)=>hiv W fun k h1 h2=>h.block k (hOlt k (hsep k h1 h2).1))
 have HFSK:=Lib.hid (And.intro hle (And.intro hiv (And.intro hsep (And.intro htr (And.intro htb (And.intro hfl (And.intro hOm hOlt)))))))
 have I:=Lib.hid (Hd.base hb0 (by first | exact Nat.le_refl _ | exact Below.size hb0))
 replace I:=Lib.hid (Hd.and I.out (Hd.box (blk_new w (.cells (fc s As cs) 25))))
 replace I:=Lib.hid (Hd.and I.out (Hd.box ((hb0.block g hgl).trans hbox)))
 replace I:=Lib.hid (Hd.and I.out (Hd.reads (Kd.C_below hp hb0)))
 replace I:=Lib.hid (Hd.and I.out (Hd.reads (Kd.C_below hs hb0)))
 obtain ⟨⟨u,k⟩,hu⟩:∃ r,putA f.tree p s=r:=⟨_,rfl⟩
 have HU:=Lib.hid hu
 clear hu hiv hsep htr hfl hOm hOlt hs hp hbox htb
 go_enter Tryz.func112,Tryz.ntmps112
 obtain ⟨ls0,ls1,ls2,ls3⟩:=c4A I.out.now.2.2.2.1
 go_wp2_with fail
 clear ls0 ls1 ls2 ls3
 generalize (w.alloc (.cells (fc s As cs) 25))=W0 at *
 refine start_ (n:=13) (S:=fun w'=>w'.heap[g]? = some (.cells #[.string f.tree.name,.int .u8 f.tree.kind,.string f.tree.data,.slice A f.tree.files.length c,v,.map (some m)] 68 (0,0))∧w'.heap[w.heap.size]? = some (.cells (fc s As cs) 25 (0,0))) (ds:=[11]) (bf 13 0) (by kernel_rfl) rfl rfl ⟨(I.out _ (bdrew (Below.refl W0.heap.size W0))).2.2.1,(I.out _ (bdrew (Below.refl W0.heap.size W0))).2.2.2.1⟩ (fun hHeld => ?_)
 refine pA 0 10 (bf 13 1) ?_
 refine pA 1 11 (bf 13 3) ?_
 refine pA 2 12 (bf 13 7) ?_
 refine pA 4 14 (bf 13 23) ?_
 refine tA 3 13 (bf 13 31) hHeld ?_ (hy:=by
  rintro w' ⟨s0,s1⟩
  have q0:=cell_of (j:=0) s0 rfl
  have q1:=cell_of (j:=1) s0 rfl
  have q2:=cell_of (j:=2) s0 rfl
  have q3:=cell_of (j:=3) s0 rfl
  have q4:=cell_of (j:=4) s0 rfl
  have q5:=cell_of (j:=5) s0 rfl
  go_simp
  with_reducible rfl)
 refine tA 5 15 (bf 13 63) hHeld ?_ (hy:=by
  rintro w' ⟨s0,s1⟩
  have q0:=cell_of (j:=0) s1 rfl
  have q1:=cell_of (j:=1) s1 rfl
  have q2:=cell_of (j:=2) s1 rfl
  have q3:=cell_of (j:=3) s1 rfl
  go_simp
  with_reducible rfl)
 refine join_ (σ:=(Option Addr×Nat×Nat×Nat)×Nat) 2 (bf 13 2047) (fun s=>match s with | ((A1,c1,lo1,hi1),gd)=>[(16,.tuple #[.agg (fc u A1 c1),.int .i64 k]),(9,.tuple #[.agg (fc u A1 c1),.int .i64 k]),(17,.agg (fc u A1 c1)),(18,.int .i64 k),(7,.pointer (some ⟨gd,0,none⟩))]) (fun s W=>match s with | ((A1,c1,lo1,hi1),gd)=>Below W0.heap.size W0 W∧W0.heap.size≤gd∧W.heap[gd]? = some (.cells zC 25 (0,0))∧u.files.length≤c1∧Iv lo1 hi1 W (fun W=>FileK.C W A1 u.files.length u.files)∧W0.heap.size≤lo1∧hi1≤W.heap.size∧(gd<lo1∨hi1≤gd)) ?_ ?_
 rotate_left
 ·intro hc
  refine two_ (i:=6) (j:=10) (Ni:=some 16) (Nj:=some 7) (bf 13 127) (bf 13 1087) rfl rfl rfl rfl (by kernel_rfl) (by decide) (by decide) (fun K hK => ?_) (fun K hK => ?_)
  ·refine gA Tryz.func115 #[.agg (fc f.tree A c),.slice Ap p.length cp,.agg (fc s As cs)] ?_
   refine ((show Calls Tryz.prog 115 #[.agg (fc f.tree A c),.slice Ap p.length cp,.agg (fc s As cs)] _ _ from putS f.tree s A As c cs Ap cp p _ (HS.out _ ((I.out _ (bdrew (Below.refl W0.heap.size W0))).2.2.2.2)) hle hbt (I.out _ (bdrew (Below.refl W0.heap.size W0))).2.1 hcp hpl (I.out _ (bdrew (Below.refl W0.heap.size W0))).1 hcs hbs hn)).mono ?_
   rw [HU.out]
   rintro e w5 ⟨⟨A1,c1,rfl,hc1,hC1⟩,hq5⟩
   refine ⟨_,rfl,?_⟩
   refine hK.out _ _ (⟨(I.out _ ((bdrew (Below.refl W0.heap.size W0)).trans hq5)).2.2.1,(I.out _ ((bdrew (Below.refl W0.heap.size W0)).trans hq5)).2.2.2.1⟩) (fun _ => ?_)
   refine nA 16 ?_
   refine pA 7 9 (bf 13 255) ?_
   refine pA 8 17 (bf 13 511) ?_
   refine pA 9 18 (bf 13 1023) ?_
   refine eA 10 7 (bf 13 2047) (fun K hK => ?_)
   refine vA ?_
   refine hK.out _ _ (⟨(I.out _ (below_alloc ((bdrew (Below.refl W0.heap.size W0)).trans hq5) _)).2.2.1,(I.out _ (below_alloc ((bdrew (Below.refl W0.heap.size W0)).trans hq5) _)).2.2.2.1⟩) (fun _ => ?_)
   refine jA (hc ((A1,c1,W0.drew.heap.size,w5.heap.size),w5.heap.size) _ (⟨below_alloc ((bdrew (Below.refl W0.heap.size W0)).trans hq5) _,((bdrew (Below.refl W0.heap.size W0)).trans hq5).size,blk_new w5 _,hc1,Iv.mv hC1 fun k _ h2=>(below_alloc (Below.refl w5.heap.size w5) _).block k h2,(bdrew (Below.refl W0.heap.size W0)).size,(below_alloc (Below.refl w5.heap.size w5) _).size,.inr (Nat.le_refl _)⟩))
  ·refine vA ?_
   refine hK.out _ _ (⟨(I.out _ (below_alloc (bdrew (Below.refl W0.heap.size W0)) (.cells zC 25))).2.2.1,(I.out _ (below_alloc (bdrew (Below.refl W0.heap.size W0)) (.cells zC 25))).2.2.2.1⟩) (fun _ => ?_)
   refine nA 7 ?_
   refine eA 6 16 (bf 13 1151) (fun K hK => ?_)
   refine gA Tryz.func115 #[.agg (fc f.tree A c),.slice Ap p.length cp,.agg (fc s As cs)] ?_
   refine ((show Calls Tryz.prog 115 #[.agg (fc f.tree A c),.slice Ap p.length cp,.agg (fc s As cs)] _ _ from putS f.tree s A As c cs Ap cp p _ (HS.out _ ((I.out _ (below_alloc (bdrew (Below.refl W0.heap.size W0)) (.cells zC 25))).2.2.2.2)) hle hbt (I.out _ (below_alloc (bdrew (Below.refl W0.heap.size W0)) (.cells zC 25))).2.1 hcp hpl (I.out _ (below_alloc (bdrew (Below.refl W0.heap.size W0)) (.cells zC 25))).1 hcs hbs hn)).mono ?_
   rw [HU.out]
   rintro e w5 ⟨⟨A1,c1,rfl,hc1,hC1⟩,hq5⟩
   refine ⟨_,rfl,?_⟩
   refine hK.out _ _ (⟨(I.out _ ((below_alloc (bdrew (Below.refl W0.heap.size W0)) (.cells zC 25)).trans (hq5.mono (below_alloc (Below.refl W0.drew.heap.size W0.drew) (.cells zC 25)).size))).2.2.1,(I.out _ ((below_alloc (bdrew (Below.refl W0.heap.size W0)) (.cells zC 25)).trans (hq5.mono (below_alloc (Below.refl W0.drew.heap.size W0.drew) (.cells zC 25)).size))).2.2.2.1⟩) (fun _ => ?_)
   refine nA 16 ?_
   refine pA 7 9 (bf 13 1279) ?_
   refine pA 8 17 (bf 13 1535) ?_
   refine pA 9 18 (bf 13 2047) ?_
   refine jA (hc ((A1,c1,(W0.drew.alloc (.cells zC 25)).heap.size,w5.heap.size),W0.heap.size) _ (⟨((below_alloc (bdrew (Below.refl W0.heap.size W0)) (.cells zC 25)).trans (hq5.mono (below_alloc (Below.refl W0.drew.heap.size W0.drew) (.cells zC 25)).size)),Nat.le_refl _,(hq5.block _ (blk_lt (blk_new W0.drew (.cells zC 25)))).trans (blk_new W0.drew (.cells zC 25)),hc1,hC1,(below_alloc (bdrew (Below.refl W0.heap.size W0)) (.cells zC 25)).size,Nat.le_refl _,.inl (blk_lt (blk_new W0.drew (.cells zC 25)))⟩))
 ·rintro ⟨⟨A1,c1,lo1,hi1⟩,gd⟩ W hF
  refine uA ?_
  obtain ⟨hbW,hgd,hzz,hc1,hIV,hlo1,hhi1,hsp⟩:=hF
  have hHeld:=(show W.heap[g]? = some (.cells #[.string f.tree.name,.int .u8 f.tree.kind,.string f.tree.data,.slice A f.tree.files.length c,v,.map (some m)] 68 (0,0))∧W.heap[w.heap.size]? = some (.cells (fc s As cs) 25 (0,0)) from ⟨(I.out _ hbW).2.2.1,(I.out _ hbW).2.2.2.1⟩)
  refine last_ (i:=11) (N:=none) (bf 13 4095) rfl rfl (by kernel_rfl) (by decide) (fun K hK => ?_)
  obtain ⟨zc0,zc1,zc2,zc3⟩:=c4A hzz
  obtain ⟨zu0,zu1,zu2,zu3⟩:=u4A hzz
  refine sA ?_
  refine hK.out _ _ ?_
  refine pA 12 8 (bf 13 8191) ?_
  refine done_ (by kernel_rfl) ?_
  have hq6:=store4_below hbW (g:=gd) hgd (.string u.name) (.int .u8 u.kind) (.string u.data) (.slice A1 u.files.length c1)
  have hd6:=store4_box hzz (.string u.name) (.int .u8 u.kind) (.string u.data) (.slice A1 u.files.length c1)
  have hIV6:=hIV.mv (w':=((((W.setCell ⟨gd,0,none⟩ (.string u.name)).setCell ⟨gd,1,none⟩ (.int .u8 u.kind)).setCell ⟨gd,2,none⟩ (.string u.data)).setCell ⟨gd,3,none⟩ (.slice A1 u.files.length c1))) fun k h1 h2=>store4_other W (g:=gd) (by omega) _ _ _ _
  have hs6:((((W.setCell ⟨gd,0,none⟩ (.string u.name)).setCell ⟨gd,1,none⟩ (.int .u8 u.kind)).setCell ⟨gd,2,none⟩ (.string u.data)).setCell ⟨gd,3,none⟩ (.slice A1 u.files.length c1)).heap.size=W.heap.size:=by simp [World.setCell]
  have hhi6:hi1≤((((W.setCell ⟨gd,0,none⟩ (.string u.name)).setCell ⟨gd,1,none⟩ (.int .u8 u.kind)).setCell ⟨gd,2,none⟩ (.string u.data)).setCell ⟨gd,3,none⟩ (.slice A1 u.files.length c1)).heap.size:=by omega
  replace I:=Lib.hid (Hd.mv I.out hq6)
  replace I:=Lib.hid (Hd.and I.out (Hd.box (hd6)))
  clear zc0 zc1 zc2 zc3 zu0 zu1 zu2 zu3 hzz hHeld hK hd6 hs6 hIV hhi1 hsp
  generalize ((((W.setCell ⟨gd,0,none⟩ (.string u.name)).setCell ⟨gd,1,none⟩ (.int .u8 u.kind)).setCell ⟨gd,2,none⟩ (.string u.data)).setCell ⟨gd,3,none⟩ (.slice A1 u.files.length c1))=W6 at *
  have hbw6:=I.out.now.2.2.2.2.2
  have HFS6:=Lib.hid (HFS0.out.below hbw6)
  have hs6:=hbw6.size
  have hs0:=Below.size hb0
  have hl0:w.heap.size≤lo1:=by omega
  by_cases hk:k=0
  rotate_left
  ·skip
   have k1:(k == 0)=false:=beq_eq_false_iff_ne.2 hk
   have HPV:=Lib.hid (show putV f.tree p s=(f.tree,k) from by unfold putV;rw [HU.out];exact if_neg hk)
   clear hk
   go_wp2_with fail
   go_ret
   rw [HPV.out]
   exact ⟨rfl,HFS6.out.mono (fun k h=>.inl h) (fun k h=>h.elim (fun h=>HFS6.out.lts k h) fun h=>h.2),Only.of_belowV hbw6 _⟩
  ·skip
   subst hk
   have k1:((0:Int) == 0)=true:=rfl
   have HPV:=Lib.hid (show putV f.tree p s=(u,0) from by unfold putV;rw [HU.out];exact if_pos rfl)
   have HG6:=Lib.hid I.out.now.2.2.2.1
   have HIV6:=Lib.hid hIV6
   clear hIV6
   obtain ⟨lu0,lu1,lu2,lu3⟩:=c4A I.out.now.1
   obtain ⟨zg0,zg1,zg2,zg3⟩:=c4A HG6.out
   obtain ⟨ug0,ug1,ug2,ug3⟩:=u4A HG6.out
   go_wp2_with fail
   go_ret
   rw [HPV.out]
   have hsz:((((W6.setCell ⟨g,0,none⟩ (.string u.name)).setCell ⟨g,1,none⟩ (.int .u8 u.kind)).setCell ⟨g,2,none⟩ (.string u.data)).setCell ⟨g,3,none⟩ (.slice A1 u.files.length c1)).heap.size=W6.heap.size:=by simp [World.setCell]
   obtain ⟨hle,hiv,hsep,htr,htb,hfl,hOm,hOlt⟩:=HFSK.out
   have htr6:=Kd.R_below htr hbw6
   have htrn:=Kd.R_types htr6 HG6.out (by decide)
   have hflm:=hfl.lt
   have hmg:=(hfl.mv (hbw6.block m hflm)).ne HG6.out
   have htbl:∀ k,tb=some k→k<w.heap.size:=fun k e=>hOlt k (((Kd.R_bound htr).1 k (htb.trans e)).1)
   refine ⟨rfl,⟨A1,c1,v,m,lo1,hi1,store4_box6 HG6.out _ _ _ _,hc1,HIV6.out.mv fun k h1 h2=>store4_other W6 (g:=g) (by omega) _ _ _ _,fun k h1 h2=>⟨.inr ⟨by omega,by omega⟩,by omega,fun e=>by have:=htbl k e;omega⟩,Kd.R_mono (Kd.R_step htrn fun k hk _=>store4_other W6 (g:=g) hk.2 _ _ _ _) (fun k hk=>.inl hk.1),htb,hfl.mv ((store4_other W6 (g:=g) hmg _ _ _ _).trans (hbw6.block m hflm)),.inl hOm,fun k h=>h.elim (fun h=>by have:=hOlt k h;omega) fun h=>h.2⟩,?_⟩
   exact (Only.of_belowV hbw6 (fun k=>k=g)).trans (only4 W6 g _ _ _ _) (fun _ _ h=>h) (fun _ _ h=>h)
end Go.Proofs.YthlcjjhfkldmhaaGreatDoor.G
end
section
section
namespace Go.Proofs.YthlcjjhfkldmhaaGreatDoor.G
open Go.RowKit Go.Lib Go.Proofs.YthlcjjhfkldmhaaGreatDoorW.PrintWords Go.Proofs.YthlcjjhfkldmhaaGreatDoorW.PrintLast
set_option linter.unusedVariables false
def bq (n m:Nat):Array Bool:=((List.range n).map (fun j=>m.testBit j)).toArray
def reqCells (x:Req) (Ap:Option Addr) (cp:Nat) (Ad:Option Addr) (cd:Nat) (tl:Told):Array Value:=#[.slice Ap x.p.length cp,.slice Ad x.dest.length cd,.string tl.data,.int .u8 tl.kind,.int .i64 tl.size]
def OpPost (w:World) (g r:Nat) (O:Nat→Prop) (tb:Option Nat) (f:FsV) (x:Req) (Ap:Option Addr) (cp:Nat) (Ad:Option Addr) (cd:Nat) (res:File×Told×Int) (e:Ending) (w':World):Prop :=
 e=.returned (.int .i64 res.2.2)∧FsAt w' g (fun k=>O k∨w.heap.size≤k∧k<w'.heap.size) tb {f with tree:=res.1}∧w'.heap[r]? = some (.cells (reqCells x Ap cp Ad cd res.2.1) 97 (0,0))∧Only (fun k=>k=g∨k=r) w w'
theorem textF_bulk (d:ByteArray):(textF d).bulk=4+d.size:=by
 rw [bulk_eq]
 show 4+0+d.size+0=_
 omega
theorem sumP_app (a b:List ByteArray):P.sumP (a++b)=P.sumP a+P.sumP b:=by simp [P.sumP,List.sum_append]
theorem sumP_cons (n:ByteArray) (b:List ByteArray):P.sumP (n :: b)=1+(n.size:Int)+P.sumP b:=by simp [P.sumP]
theorem sumP_one (n:ByteArray):P.sumP [n]=1+(n.size:Int):=by simp [P.sumP]
theorem sumP_in {l:List ByteArray} {n:ByteArray} (h:n∈l):(n.size:Int)+1≤P.sumP l:=by
 induction l with
 | nil=>cases h
 | cons a l ih =>
  have h1:=sumP_cons a l
  have h2:=P.sumP_nonneg l
  rcases List.mem_cons.1 h with rfl | h
  ·omega
  ·have:=ih h;omega
theorem walkIn_sum (last:Bool) (follow:Option (List ByteArray→WR)) (S:Int) (hS:0≤S) (hf:∀ g,follow=some g→∀ todo,P.sumP (g todo).1≤P.sumP todo+S) :
  ∀ (todo done:List ByteArray) (here:File),P.sumP (walkIn last follow todo done here).1≤P.sumP done+P.sumP todo+S+1024
 | [],done,here=>by
  rw [walkIn]
  have:P.sumP ([]:List ByteArray)=0:=rfl
  simp only
  omega
 | n :: rest,done,here=>by
  have hd:=P.sumP_nonneg done
  have hr:=P.sumP_nonneg rest
  have hc:=sumP_cons n rest
  have h0:P.sumP ([]:List ByteArray)=0:=rfl
  have hb:∀ k,P.sumP (badW k).1≤P.sumP done+P.sumP (n :: rest)+S+1024:=fun k=>by show P.sumP []≤_;omega
  rw [walkIn]
  split
  ·split
   ·split
    ·show P.sumP (done++[n])≤_
     rw [sumP_app,sumP_one]
     omega
    ·exact hb _
   ·rename_i x hx
    split
    ·split
     ·exact hb _
     ·rename_i g
      split
      ·rename_i hz
       split
       ·have h1:=hf g rfl ((P.normR done x.data).1++rest)
        rw [sumP_app] at h1
        have h2:=P.norm_sum done x.data hz
        omega
       ·exact hb _
      ·exact hb _
    ·have h1:=walkIn_sum last follow S hS hf rest (done++[n]) x
     rw [sumP_app,sumP_one] at h1
     omega
  ·exact hb _
theorem follow_sum (t:File) (last:Bool):∀ (k:Nat) (g:List ByteArray→WR),followK t last k=some g→∀ todo,P.sumP (g todo).1≤P.sumP todo+1024 * (k:Int)
 | 0,g,h=>by simp [followK] at h
 | k+1,g,h=>by
  intro todo
  simp only [followK,Option.some.injEq] at h
  subst h
  have h1:=walkIn_sum last (followK t last k) (1024 * (k:Int)) (by omega) (follow_sum t last k) todo [] t
  have h0:P.sumP ([]:List ByteArray)=0:=rfl
  simp only
  omega
theorem walk_sum (t:File) (p:List ByteArray) (last:Bool):P.sumP (walkR t p last).1≤P.sumP p+41984:=by
 have h0:P.sumP ([]:List ByteArray)=0:=rfl
 have hp:=P.sumP_nonneg p
 unfold walkR
 split
 ·have h1:=walkIn_sum last (followK t last 40) (1024 * (40:Nat)) (by omega) (follow_sum t last 40) p [] t
  omega
 ·show P.sumP []≤_
  omega
theorem walkIn_bulk (last:Bool) (follow:Option (List ByteArray→WR)) (b:Nat) (hf:∀ g,follow=some g→∀ todo,(g todo).2.1.bulk≤b+4) :
  ∀ (todo done:List ByteArray) (here:File),here.bulk≤b→(walkIn last follow todo done here).2.1.bulk≤b+4
 | [],done,here,h=>by
  rw [walkIn]
  simp only
  omega
 | n :: rest,done,here,h=>by
  have hz:=zero_bulk4
  have hb:∀ k,(badW k).2.1.bulk≤b+4:=fun k=>by show zeroF.bulk≤_;omega
  rw [walkIn]
  split
  ·split
   ·split
    ·show zeroF.bulk≤_;omega
    ·exact hb _
   ·rename_i x hx
    split
    ·split
     ·exact hb _
     ·rename_i g
      split
      ·split
       ·exact hf g rfl _
       ·exact hb _
      ·exact hb _
    ·have h1:=bulk_child (List.mem_of_find?_eq_some hx)
     exact walkIn_bulk last follow b hf rest (done++[n]) x (by omega)
  ·exact hb _
theorem follow_bulk (t:File) (last:Bool):∀ (k:Nat) (g:List ByteArray→WR),followK t last k=some g→∀ todo,(g todo).2.1.bulk≤t.bulk+4
 | 0,g,h=>by simp [followK] at h
 | k+1,g,h=>by
  intro todo
  simp only [followK,Option.some.injEq] at h
  subst h
  exact walkIn_bulk last (followK t last k) t.bulk (follow_bulk t last k) todo [] t (Nat.le_refl _)
theorem walk_bulk (t:File) (p:List ByteArray) (last:Bool):(walkR t p last).2.1.bulk≤t.bulk+4:=by
 have hz:=zero_bulk4
 unfold walkR
 split
 ·exact walkIn_bulk last (followK t last 40) t.bulk (follow_bulk t last 40) p [] t (Nat.le_refl _)
 ·show zeroF.bulk≤_;omega
end Go.Proofs.YthlcjjhfkldmhaaGreatDoor.G
end
section
namespace Go.Proofs.YthlcjjhfkldmhaaGreatDoor.G
open Go.RowKit Go.Lib Go.Proofs.YthlcjjhfkldmhaaGreatDoorW.PrintWords Go.Proofs.YthlcjjhfkldmhaaGreatDoorW.PrintLast
set_option linter.unusedVariables false
set_option linter.unusedSimpArgs false
def There (t:File) (r:WR):Prop:=r.2.2.2=0→(r.2.2.1=true→goP t r.1=(0,some r.2.1))∧(r.2.2.1=false→r.2.1=zeroF∧∃ q n d,r.1=q++[n]∧goP t q=(0,some d)∧d.kind=1∧d.files.find? (nameIs n)=none)
theorem there_bad (t:File) (k:Int) (hk:k≠0):There t (badW k):=fun h=>absurd h hk
theorem go_one {d x:File} {n:ByteArray} (hs:SortF d) (hk:d.kind=1) (hx:d.files.find? (nameIs n)=some x):goP d [n]=(0,some x):=by
 rw [goP_find hs,if_pos hk,hx]
 simp only
 rw [goP]
theorem walkIn_there (t:File) (ht:SortF t) (last:Bool) (follow:Option (List ByteArray→WR)) (hf:∀ g,follow=some g→∀ todo,There t (g todo)) :
  ∀ (todo done:List ByteArray) (here:File),goP t done=(0,some here)→There t (walkIn last follow todo done here)
 | [],done,here,h=>by
  rw [walkIn]
  exact fun _=>And.intro (fun _=>h) (fun h2=>Bool.noConfusion h2)
 | n :: rest,done,here,h=>by
  have hs:=go_sort done t here 0 ht h
  rw [walkIn]
  split
  ·rename_i hk
   split
   ·rename_i hn
    split
    ·exact fun _=>And.intro (fun h2=>Bool.noConfusion h2) (fun _=>⟨rfl,done,n,here,rfl,h,hk,hn⟩)
    ·exact there_bad _ _ (by decide)
   ·rename_i x hx
    split
    ·split
     ·exact there_bad _ _ (by decide)
     ·rename_i g
      split
      ·split
       ·exact hf g rfl _
       ·exact there_bad _ _ (by decide)
      ·rename_i hz
       exact there_bad _ _ hz
    ·exact walkIn_there t ht last follow hf rest (done++[n]) x ((go_app done [n] t here h).trans (go_one hs hk hx))
  ·exact there_bad _ _ (by decide)
theorem follow_there (t:File) (ht:SortF t) (last:Bool):∀ (k:Nat) (g:List ByteArray→WR),followK t last k=some g→∀ todo,There t (g todo)
 | 0,g,h=>by simp [followK] at h
 | k+1,g,h=>by
  intro todo
  simp only [followK,Option.some.injEq] at h
  subst h
  exact walkIn_there t ht last (followK t last k) (follow_there t ht last k) todo [] t (by rw [goP])
theorem walk_there (t:File) (ht:rightT t=true) (p:List ByteArray) (last:Bool):There t (walkR t p last):=by
 unfold walkR
 split
 ·exact walkIn_there t (right_sort ht) last (followK t last 40) (follow_there t (right_sort ht) last 40) p [] t (by rw [goP])
 ·exact there_bad _ _ (by decide)
theorem wrongL_all {rec:File→List ByteArray→Option (List ByteArray)} {p:List ByteArray}:∀ {l:List File} {prev:Option ByteArray},wrongL rec p prev l=none→∀ x∈l,(∃ pr,badF pr (p++[x.name]) x=false)∧rec x (p++[x.name])=none
 | [],prev,h,x,hx=>by cases hx
 | y :: l,prev,h,x,hx=>by
  rw [wrongL] at h
  split at h
  ·cases h
  ·rename_i hb
   split at h
   ·cases h
   ·rename_i hr
    rcases List.mem_cons.1 hx with rfl | hx
    ·exact ⟨⟨prev,Bool.eq_false_iff.2 hb⟩,hr⟩
    ·exact wrongL_all h x hx
theorem wrong_go:∀ (q:List ByteArray) (n:Nat) (f:File) (p:List ByteArray),f.bulk≤n→wrongN n f p=none→∀ d,goP f q=(0,some d)→∀ x∈d.files,∃ pr pp,badF pr pp x=false
 | q,0,f,p,hn,h,d,hg,x,hx=>by
  have:=bulk_eq f
  omega
 | [],n+1,f,p,hn,h,d,hg,x,hx=>by
  rw [goP] at hg
  injection hg with _ hg
  injection hg with hg
  subst hg
  replace h:wrongL (wrongN n) p none f.files=none:=h
  obtain ⟨⟨pr,hb⟩,_⟩:=wrongL_all h x hx
  exact ⟨pr,_,hb⟩
 | a :: q,n+1,f,p,hn,h,d,hg,x,hx=>by
  obtain ⟨y,hk,hy,hyn,hg2⟩:=goP_full hg
  replace h:wrongL (wrongN n) p none f.files=none:=h
  have hm:=List.mem_of_getElem? hy
  have hb:=bulk_child hm
  exact wrong_go q n y _ (by omega) (wrongL_all h y hm).2 d hg2 x hx
theorem right_wrong {t:File} (h:rightT t=true):wrongN t.bulk t []=none∧t.kind=1:=by
 unfold rightT checkR at h
 split at h
 ·rename_i hk
  refine ⟨?_,hk.1⟩
  cases hw:wrongN t.bulk t [] with
  | none=>rfl
  | some b=>rw [hw] at h;simp [checkO] at h
 ·simp at h
theorem right_name {t d x:File} {q:List ByteArray} (h:rightT t=true) (hg:goP t q=(0,some d)) (hx:x∈d.files):x.name.size≤255:=by
 obtain ⟨pr,pp,hb⟩:=wrong_go q t.bulk t [] (Nat.le_refl _) (right_wrong h).1 d hg x hx
 unfold badF at hb
 simp only [Bool.or_eq_false_iff,Bool.not_eq_false'] at hb
 have hn:=hb.1.1.1
 unfold nameB at hn
 simp only [Bool.and_eq_true,decide_eq_true_iff] at hn
 have h2:=hn.1.1.1.2
 rwa [show x.name.data.toList.length=x.name.size from (Lib.size_eq x.name).symm] at h2
theorem ins_mem (l:List File) (x:File):x∈insF l x:=List.mem_of_getElem? (ins_at l x)
theorem bulk_ins_found {l:List File} {x y:File} (hf:foundB l x.name=true) (hy:l[lowB l x.name]? = some y):bulkL (insF l x)+y.bulk=bulkL l+x.bulk:=by
 have h1:=bulkL_cut l (lowB l x.name)
 unfold insF
 rw [if_pos hf,bulkL_app,bulkL_cons]
 obtain ⟨hlt,he⟩:=List.getElem?_eq_some_iff.1 hy
 rw [List.drop_eq_getElem_cons hlt,bulkL_cons,he] at h1
 omega
theorem bulk_del_at {l:List File} {n:ByteArray} {y:File} (hy:l[lowB l n]? = some y):bulkL (delF l n)+y.bulk=bulkL l:=by
 have h1:=bulkL_cut l (lowB l n)
 unfold delF
 rw [bulkL_app]
 obtain ⟨hlt,he⟩:=List.getElem?_eq_some_iff.1 hy
 rw [List.drop_eq_getElem_cons hlt,bulkL_cons,he] at h1
 omega
theorem put_ok {t f:File} {q:List ByteArray} {n:ByteArray} (h:(putR t q n f).2=0):∃ d,goP t q=(0,some d)∧d.kind=1∧rightT t=true∧rightT (putR t q n f).1=true∧(putR t q n f).1=putP t q {d with files:=insF d.files (nameF f n)}∧n.size≤255∧(putR t q n f).1.bulk+bulkL d.files=t.bulk+bulkL (insF d.files (nameF f n)):=by
 unfold putR at h ⊢
 split at h
 ·rename_i hr
  rw [if_pos hr]
  cases hg:goP t q with
  | mk k o =>
  rw [hg] at h
  cases o with
  | none =>
   simp only at h
   exact absurd hg (by rw [h];exact go_none0)
  | some d =>
  simp only at h ⊢
  obtain rfl:=goP_zero q t d k hg
  split at h
  ·rename_i hk
   split at h
   ·rename_i hu
    rw [if_pos hk,if_pos hu]
    have hgu:goP (putP t q {d with files:=insF d.files (nameF f n)}) q=(0,some {d with files:=insF d.files (nameF f n)}):=go_put q t {d with files:=insF d.files (nameF f n)} d hg rfl
    have h1:=bulk_put q t {d with files:=insF d.files (nameF f n)} d 0 hg
    have h2:=bulk_with d (insF d.files (nameF f n))
    exact ⟨d,rfl,hk,hr,hu,rfl,right_name hu hgu (ins_mem d.files (nameF f n)),by simp only;omega⟩
   ·simp at h
  ·simp at h
 ·simp at h
theorem putA_ok {t f:File} {p:List ByteArray} (h:(putA t p f).2=0):∃ q n,p=q++[n]∧(putR t q n f).2=0∧putA t p f=putR t q n f:=by
 rcases nil_or_snoc p with rfl | ⟨q,n,rfl⟩
 ·rw [putA_nil] at h
  unfold nilR at h
  split at h <;> simp at h
 ·rw [putA_snoc] at h ⊢
  exact ⟨q,n,rfl,h,rfl⟩
theorem go_last {t y:File} {q:List ByteArray} {n:ByteArray} {d:File} (hg:goP t q=(0,some d)) (hy:goP t (q++[n])=(0,some y)):d.files[lowB d.files n]? = some y∧y.name=n∧foundB d.files n=true:=by
 rw [go_app q [n] t d hg] at hy
 obtain ⟨x,_,hx,hxn,hg2⟩:=goP_full hy
 rw [goP] at hg2
 injection hg2 with _ hg2
 injection hg2 with hg2
 subst hg2
 refine ⟨hx,hxn,?_⟩
 unfold foundB
 rw [hx]
 simp [hxn]
theorem put_bulk_new {t f:File} {p:List ByteArray} (h:(putA t p f).2=0):(putA t p f).1.bulk≤t.bulk+f.bulk+255:=by
 obtain ⟨q,n,rfl,h2,h3⟩:=putA_ok h
 obtain ⟨d,hg,hk,hr,hu,he,hn,hb⟩:=put_ok h2
 rw [h3]
 have h4:=bulk_ins d.files (nameF f n)
 have h5:=bulk_name f n
 omega
theorem put_bulk_over {t f y:File} {p:List ByteArray} (h:(putA t p f).2=0) (hy:goP t p=(0,some y)):(putA t p f).1.bulk+y.bulk≤t.bulk+f.bulk+255:=by
 obtain ⟨q,n,rfl,h2,h3⟩:=putA_ok h
 obtain ⟨d,hg,hk,hr,hu,he,hn,hb⟩:=put_ok h2
 obtain ⟨h6,h7,h8⟩:=go_last hg hy
 rw [h3]
 have h4:=bulk_ins_found (x:=nameF f n) h8 h6
 have h5:=bulk_name f n
 omega
theorem put_right {t f:File} {p:List ByteArray} (h:(putA t p f).2=0):rightT (putA t p f).1=true:=by
 obtain ⟨q,n,rfl,h2,h3⟩:=putA_ok h
 obtain ⟨d,hg,hk,hr,hu,he,hn,hb⟩:=put_ok h2
 rw [h3]
 exact hu
theorem drop_ok {t y:File} {p:List ByteArray} (h:(dropA t p).2=0) (hy:goP t p=(0,some y)):(dropA t p).1.bulk+y.bulk=t.bulk:=by
 rcases nil_or_snoc p with rfl | ⟨q,n,rfl⟩
 ·rw [dropA_nil] at h
  unfold nilR at h
  split at h <;> simp at h
 ·rw [dropA_snoc] at h ⊢
  unfold dropR at h ⊢
  split at h
  ·rename_i hr
   rw [if_pos hr]
   rw [hy] at h ⊢
   simp only at h ⊢
   cases hg:goP t q with
   | mk k o =>
   rw [hg] at h
   cases o with
   | none =>
    simp only at h
    exact absurd hg (by rw [h];exact go_none0)
   | some d =>
   simp only
   obtain rfl:=goP_zero q t d k hg
   have h1:=bulk_put q t {d with files:=delF d.files n} d 0 hg
   have h2:=bulk_with d (delF d.files n)
   have h3:=bulk_del_at (go_last hg hy).1
   omega
  ·simp at h
theorem putV_right {t s:File} {p:List ByteArray} (ht:rightT t=true):rightT (putV t p s).1=true:=by
 unfold putV
 split
 ·rename_i h;exact put_right h
 ·exact ht
theorem text_bulk (d:ByteArray) (y:File) (x:ByteArray) (h:d=y.data++x):(textF d).bulk≤y.bulk+x.size:=by
 rw [textF_bulk,bulk_eq y,h,ByteArray.size_append]
 omega
theorem op_grows (k:Int) (t:File) (x:Req) (ht:rightT t=true):rightT (opR k t x).1=true∧(opR k t x).1.bulk≤t.bulk+x.data.size+259:=by
 unfold opR
 split
 ·unfold lstatR
  simp only
  split
  ·split <;> exact ⟨ht,by simp only;omega⟩
  ·exact ⟨ht,by simp only;omega⟩
 split
 ·unfold readV
  simp only
  split
  ·split
   ·split <;> exact ⟨ht,by simp only;omega⟩
   ·exact ⟨ht,by simp only;omega⟩
  ·exact ⟨ht,by simp only;omega⟩
 split
 ·unfold createR
  simp only
  split
  ·split
   ·exact ⟨ht,by simp only;omega⟩
   ·refine ⟨putV_right ht,?_⟩
    simp only
    unfold putV
    split
    ·rename_i h
     have:=put_bulk_new h
     rw [textF_bulk] at this
     have h0:(⟨#[]⟩:ByteArray).size=0:=rfl
     omega
    ·simp only;omega
  ·exact ⟨ht,by simp only;omega⟩
 split
 ·unfold appendR
  simp only
  split
  ·rename_i hz
   split
   ·rename_i hi
    split
    ·exact ⟨ht,by simp only;omega⟩
    ·refine ⟨putV_right ht,?_⟩
     have hy:=(walk_there t ht x.p true hz).1 hi
     simp only
     unfold putV
     split
     ·rename_i h
      have h1:=put_bulk_over h hy
      have h2:=text_bulk _ (walkR t x.p true).2.1 x.data rfl
      omega
     ·simp only;omega
   ·exact ⟨ht,by simp only;omega⟩
  ·exact ⟨ht,by simp only;omega⟩
 ·unfold renameR
  simp only
  split
  ·rename_i hz
   split
   ·rename_i hi
    split
    ·exact ⟨ht,by simp only;omega⟩
    ·split
     ·split
      ·exact ⟨ht,by simp only;omega⟩
      ·split
       ·exact ⟨ht,by simp only;omega⟩
       ·split
        ·rename_i hd
         split
         ·rename_i hu
          have hy:=(walk_there t ht x.p false hz).1 hi
          have h1:=drop_ok hd hy
          have h2:=put_bulk_new hu
          exact ⟨put_right hu,by simp only;omega⟩
         ·exact ⟨ht,by simp only;omega⟩
        ·exact ⟨ht,by simp only;omega⟩
     ·exact ⟨ht,by simp only;omega⟩
   ·exact ⟨ht,by simp only;omega⟩
  ·exact ⟨ht,by simp only;omega⟩
theorem call_grows (f:FsV) (k:Int) (x:Req) (ht:rightT f.tree=true):rightT (callV f k x).1.tree=true∧(callV f k x).1.tree.bulk≤f.tree.bulk+x.data.size+259∧(callV f k x).1.trace.length≤f.trace.length+1∧(callV f k x).1.faults=f.faults:=by
 unfold callV
 split
 ·simp only
  split
  ·exact ⟨ht,by simp only;omega,by simp,trivial⟩
  ·exact ⟨(op_grows k f.tree x ht).1,(op_grows k f.tree x ht).2,by simp,trivial⟩
 ·exact ⟨ht,by simp only;omega,by simp only;omega,rfl⟩
end Go.Proofs.YthlcjjhfkldmhaaGreatDoor.G
end
section
section
namespace Go.Proofs.YthlcjjhfkldmhaaGreatDoor.G
open Go.RowKit Go.Lib Go.Proofs.YthlcjjhfkldmhaaGreatDoorW.PrintWords Go.Proofs.YthlcjjhfkldmhaaGreatDoorW.PrintLast
set_option linter.unusedVariables false
set_option linter.unusedSimpArgs false
set_option maxHeartbeats 8000000 in
set_option maxRecDepth 100000 in
theorem read_fs (w:World) (g r:Nat) (O:Nat→Prop) (tb:Option Nat) (f:FsV) (x:Req) (Ap:Option Addr) (cp:Nat) (Ad:Option Addr) (cd:Nat) (hfs:FsAt w g O tb f) (hreq:w.heap[r]? = some (.cells #[.slice Ap x.p.length cp,.slice Ad x.dest.length cd,.string x.data,.int .u8 0,.int .i64 0] 97 (0,0))) (hrg:r≠g) (hrO:¬ O r) (hbt:f.tree.bulk≤100000000) (hp:Kd.C Kd.string w Ap x.p.length x.p) (hcp:x.p.length≤cp) (hps:P.sumP x.p≤1024) (hdb:x.data.size≤100000000) :
  Calls Tryz.prog 97 #[.pointer (some ⟨g,0,none⟩),.pointer (some ⟨r,0,none⟩)] w fun e w'=>OpPost w g r O tb f x Ap cp Ad cd (readV f.tree x) e w':=by
 have HFS0:=Lib.hid hfs
 obtain ⟨A,c,v,m,lo,hi,hbox,hle,hiv,hsep,htr,htb,hfl,hOm,hOlt⟩:=hfs
 unfold fsCells at hbox
 have hgl:=blk_lt hbox
 have hrl:=blk_lt hreq
 have HS:=Lib.hid (fun W (h:Below w.heap.size w W)=>hiv W fun k h1 h2=>h.block k (hOlt k (hsep k h1 h2).1))
 have hlen:=P.sumP_len x.p
 have hb0:=Below.refl w.heap.size w
 have I:=Lib.hid (Hd.base hb0 (by first | exact Nat.le_refl _ | exact Below.size hb0))
 replace I:=Lib.hid (Hd.and I.out (Hd.box hbox))
 replace I:=Lib.hid (Hd.and I.out (Hd.box hreq))
 replace I:=Lib.hid (Hd.and I.out (Hd.reads (hp)))
 obtain ⟨⟨q,y,is,k⟩,hu⟩:∃ r,walkR f.tree x.p true=r:=⟨_,rfl⟩
 have HU:=Lib.hid hu
 have HRES:=Lib.hid (show readV f.tree x=readV f.tree x from rfl)
 obtain ⟨res,hres⟩:∃ r,readV f.tree x=r:=⟨_,rfl⟩
 have HR:=Lib.hid (show _=res from hres)
 rw [hres]
 clear hu hres HRES hiv hsep htr hfl hOm hOlt hp hbox htb hreq
 go_enter Tryz.func97,Tryz.ntmps97
 go_wp2_with fail
 refine start_ (n:=19) (S:=fun w'=>w'.heap[g]? = some (.cells #[.string f.tree.name,.int .u8 f.tree.kind,.string f.tree.data,.slice A f.tree.files.length c,v,.map (some m)] 68 (0,0))∧w'.heap[r]? = some (.cells #[.slice Ap x.p.length cp,.slice Ad x.dest.length cd,.string x.data,.int .u8 0,.int .i64 0] 97 (0,0))) (ds:=[16]) (bq 19 0) (by kernel_rfl) rfl rfl ⟨(I.out _ (bdrew (Below.refl w.heap.size w))).2.2.1,(I.out _ (bdrew (Below.refl w.heap.size w))).2.1⟩ (fun hHeld => ?_)
 refine pA 0 10 (bq 19 1) ?_
 refine pA 1 11 (bq 19 3) ?_
 refine pA 2 12 (bq 19 7) ?_
 refine pA 4 14 (bq 19 23) ?_
 refine pA 5 15 (bq 19 55) ?_
 refine pA 6 16 (bq 19 119) ?_
 refine tA 3 13 (bq 19 127) hHeld ?_ (hy:=by
  rintro w' ⟨s0,s1⟩
  have q0:=cell_of (j:=0) s0 rfl
  have q1:=cell_of (j:=1) s0 rfl
  have q2:=cell_of (j:=2) s0 rfl
  have q3:=cell_of (j:=3) s0 rfl
  have q4:=cell_of (j:=4) s0 rfl
  have q5:=cell_of (j:=5) s0 rfl
  go_simp
  with_reducible rfl)
 refine tA 7 17 (bq 19 255) hHeld ?_ (hy:=by
  rintro w' ⟨s0,s1⟩
  have q0:=cell_of (j:=0) s1 rfl
  have q1:=cell_of (j:=1) s1 rfl
  have q2:=cell_of (j:=2) s1 rfl
  have q3:=cell_of (j:=3) s1 rfl
  have q4:=cell_of (j:=4) s1 rfl
  go_simp
  with_reducible rfl)
 refine join_ (σ:=(Option Addr×Nat×Option Addr×Nat×Nat×Nat)×Nat) 4 (bq 19 32767) (fun s=>match s with | ((B,d,A4,c4,lo1,hi1),gd)=>[(18,.tuple #[.slice B q.length d,.agg (fc y A4 c4),.bool is,.int .i64 k]),(9,.tuple #[.slice B q.length d,.agg (fc y A4 c4),.bool is,.int .i64 k]),(19,.slice B q.length d),(20,.agg (fc y A4 c4)),(21,.bool is),(22,.int .i64 k),(6,.pointer (some ⟨gd,0,none⟩))]) (fun s W=>match s with | ((B,d,A4,c4,lo1,hi1),gd)=>Below w.heap.size w W∧w.heap.size≤gd∧W.heap[gd]? = some (.cells zC 25 (0,0))∧q.length≤d∧Iv lo1 hi1 W (fun W=>Kd.C Kd.string W B q.length q)∧w.heap.size≤lo1∧hi1≤W.heap.size∧(gd<lo1∨hi1≤gd)∧y.files.length≤c4∧FileK.C w A4 y.files.length y.files) ?_ ?_
 rotate_left
 ·intro hc
  refine two_ (i:=8) (j:=14) (Ni:=some 18) (Nj:=some 6) (bq 19 511) (bq 19 16639) rfl rfl rfl rfl (by kernel_rfl) (by decide) (by decide) (fun K hK => ?_) (fun K hK => ?_)
  ·refine gA Tryz.func37 #[.agg (fc f.tree A c),.slice Ap x.p.length cp,.bool true] ?_
   refine ((show Calls Tryz.prog 37 #[.agg (fc f.tree A c),.slice Ap x.p.length cp,.bool true] _ _ from walk_calls f.tree A c Ap cp x.p true _ w ((bdrew (Below.refl w.heap.size w))) (HS.out w (Below.refl _ _)) hle (by omega) (I.out _ (bdrew (Below.refl w.heap.size w))).1 hcp (by omega) (by omega))).mono ?_
   rw [HU.out]
   rintro e w5 ⟨B,d,A4,c4,rfl,hd,hD,hc4,hC4,hq5⟩
   refine ⟨_,rfl,?_⟩
   refine hK.out _ _ (⟨(I.out _ ((bdrew (Below.refl w.heap.size w)).trans hq5)).2.2.1,(I.out _ ((bdrew (Below.refl w.heap.size w)).trans hq5)).2.1⟩) (fun _ => ?_)
   refine nA 18 ?_
   refine pA 9 9 (bq 19 1023) ?_
   refine pA 10 19 (bq 19 2047) ?_
   refine pA 11 20 (bq 19 4095) ?_
   refine pA 12 21 (bq 19 8191) ?_
   refine pA 13 22 (bq 19 16383) ?_
   refine eA 14 6 (bq 19 32767) (fun K hK => ?_)
   refine vA ?_
   refine hK.out _ _ (⟨(I.out _ (below_alloc ((bdrew (Below.refl w.heap.size w)).trans hq5) _)).2.2.1,(I.out _ (below_alloc ((bdrew (Below.refl w.heap.size w)).trans hq5) _)).2.1⟩) (fun _ => ?_)
   refine jA (hc ((B,d,A4,c4,w.drew.heap.size,w5.heap.size),w5.heap.size) _ (⟨below_alloc ((bdrew (Below.refl w.heap.size w)).trans hq5) _,((bdrew (Below.refl w.heap.size w)).trans hq5).size,blk_new w5 _,hd,Iv.mv hD fun k _ h2=>(below_alloc (Below.refl w5.heap.size w5) _).block k h2,(bdrew (Below.refl w.heap.size w)).size,(below_alloc (Below.refl w5.heap.size w5) _).size,.inr (Nat.le_refl _),hc4,hC4⟩))
  ·refine vA ?_
   refine hK.out _ _ (⟨(I.out _ (below_alloc (bdrew (Below.refl w.heap.size w)) (.cells zC 25))).2.2.1,(I.out _ (below_alloc (bdrew (Below.refl w.heap.size w)) (.cells zC 25))).2.1⟩) (fun _ => ?_)
   refine nA 6 ?_
   refine eA 8 18 (bq 19 16895) (fun K hK => ?_)
   refine gA Tryz.func37 #[.agg (fc f.tree A c),.slice Ap x.p.length cp,.bool true] ?_
   refine ((show Calls Tryz.prog 37 #[.agg (fc f.tree A c),.slice Ap x.p.length cp,.bool true] _ _ from walk_calls f.tree A c Ap cp x.p true _ w ((below_alloc (bdrew (Below.refl w.heap.size w)) (.cells zC 25))) (HS.out w (Below.refl _ _)) hle (by omega) (I.out _ (below_alloc (bdrew (Below.refl w.heap.size w)) (.cells zC 25))).1 hcp (by omega) (by omega))).mono ?_
   rw [HU.out]
   rintro e w5 ⟨B,d,A4,c4,rfl,hd,hD,hc4,hC4,hq5⟩
   refine ⟨_,rfl,?_⟩
   refine hK.out _ _ (⟨(I.out _ ((below_alloc (bdrew (Below.refl w.heap.size w)) (.cells zC 25)).trans (hq5.mono (below_alloc (Below.refl w.drew.heap.size w.drew) (.cells zC 25)).size))).2.2.1,(I.out _ ((below_alloc (bdrew (Below.refl w.heap.size w)) (.cells zC 25)).trans (hq5.mono (below_alloc (Below.refl w.drew.heap.size w.drew) (.cells zC 25)).size))).2.1⟩) (fun _ => ?_)
   refine nA 18 ?_
   refine pA 9 9 (bq 19 17407) ?_
   refine pA 10 19 (bq 19 18431) ?_
   refine pA 11 20 (bq 19 20479) ?_
   refine pA 12 21 (bq 19 24575) ?_
   refine pA 13 22 (bq 19 32767) ?_
   refine jA (hc ((B,d,A4,c4,(w.drew.alloc (.cells zC 25)).heap.size,w5.heap.size),w.heap.size) _ (⟨((below_alloc (bdrew (Below.refl w.heap.size w)) (.cells zC 25)).trans (hq5.mono (below_alloc (Below.refl w.drew.heap.size w.drew) (.cells zC 25)).size)),Nat.le_refl _,(hq5.block _ (blk_lt (blk_new w.drew (.cells zC 25)))).trans (blk_new w.drew (.cells zC 25)),hd,hD,(below_alloc (bdrew (Below.refl w.heap.size w)) (.cells zC 25)).size,Nat.le_refl _,.inl (blk_lt (blk_new w.drew (.cells zC 25))),hc4,hC4⟩))
 ·rintro ⟨⟨B,d,A4,c4,lo1,hi1⟩,gd⟩ W hF
  refine uA ?_
  obtain ⟨hbW,hgd,hzz,hd,hD,hlo1,hhi1,hsp,hc4,hC4⟩:=hF
  have hHeld:=(show W.heap[g]? = some (.cells #[.string f.tree.name,.int .u8 f.tree.kind,.string f.tree.data,.slice A f.tree.files.length c,v,.map (some m)] 68 (0,0))∧W.heap[r]? = some (.cells #[.slice Ap x.p.length cp,.slice Ad x.dest.length cd,.string x.data,.int .u8 0,.int .i64 0] 97 (0,0)) from ⟨(I.out _ hbW).2.2.1,(I.out _ hbW).2.1⟩)
  refine pA 15 5 (bq 19 65535) ?_
  refine last_ (i:=16) (N:=none) (bq 19 131071) rfl rfl (by kernel_rfl) (by decide) (fun K hK => ?_)
  obtain ⟨zc0,zc1,zc2,zc3⟩:=c4A hzz
  obtain ⟨zu0,zu1,zu2,zu3⟩:=u4A hzz
  refine sA ?_
  refine hK.out _ _ ?_
  refine pA 17 7 (bq 19 262143) ?_
  refine pA 18 8 (bq 19 524287) ?_
  refine done_ (by kernel_rfl) ?_
  have hq6:=store4_below hbW (g:=gd) hgd (.string y.name) (.int .u8 y.kind) (.string y.data) (.slice A4 y.files.length c4)
  have hd6:=store4_box hzz (.string y.name) (.int .u8 y.kind) (.string y.data) (.slice A4 y.files.length c4)
  replace I:=Lib.hid (Hd.mv I.out hq6)
  replace I:=Lib.hid (Hd.and I.out (Hd.box (hd6)))
  have hIV6:=Lib.hid (hD.mv (w':=((((W.setCell ⟨gd,0,none⟩ (.string y.name)).setCell ⟨gd,1,none⟩ (.int .u8 y.kind)).setCell ⟨gd,2,none⟩ (.string y.data)).setCell ⟨gd,3,none⟩ (.slice A4 y.files.length c4))) fun k h1 h2=>store4_other W (g:=gd) (by omega) _ _ _ _)
  have HCY:=Lib.hid hC4
  have hsz6:((((W.setCell ⟨gd,0,none⟩ (.string y.name)).setCell ⟨gd,1,none⟩ (.int .u8 y.kind)).setCell ⟨gd,2,none⟩ (.string y.data)).setCell ⟨gd,3,none⟩ (.slice A4 y.files.length c4)).heap.size=W.heap.size:=by simp [World.setCell]
  have hhi6:hi1≤((((W.setCell ⟨gd,0,none⟩ (.string y.name)).setCell ⟨gd,1,none⟩ (.int .u8 y.kind)).setCell ⟨gd,2,none⟩ (.string y.data)).setCell ⟨gd,3,none⟩ (.slice A4 y.files.length c4)).heap.size:=by omega
  clear zc0 zc1 zc2 zc3 zu0 zu1 zu2 zu3 hHeld hK hd6 hD hC4 hsz6 hzz hsp hhi1
  generalize ((((W.setCell ⟨gd,0,none⟩ (.string y.name)).setCell ⟨gd,1,none⟩ (.int .u8 y.kind)).setCell ⟨gd,2,none⟩ (.string y.data)).setCell ⟨gd,3,none⟩ (.slice A4 y.files.length c4))=W6 at *
  have hbw6:=I.out.now.2.2.2.2
  have HFS6:=Lib.hid (HFS0.out.below hbw6)
  have hs6:=hbw6.size
  have HR1:=HR.out
  unfold readV at HR1
  rw [HU.out] at HR1
  simp only at HR1
  replace HR1:=Lib.hid HR1
  have HRQ:=Lib.hid I.out.now.2.2.1
  clear HR
  by_cases hk:k=0
  rotate_left
  ·skip
   have HR2:=HR1.out
   rw [if_neg hk] at HR2
   replace HR2:=Lib.hid HR2
   have k1:(k != 0)=true:=by rw [bne_iff_ne];exact hk
   have k1e:(k == 0)=false:=beq_eq_false_iff_ne.2 hk
   clear hk
   go_wp2_with fail
   go_ret
   rw [← HR2.out]
   exact ⟨rfl,HFS6.out.mono (fun k h=>.inl h) (fun k h=>h.elim (fun h=>HFS6.out.lts k h) fun h=>h.2),HRQ.out,Only.of_belowV hbw6 _⟩
  ·skip
   subst hk
   have HR2:=HR1.out
   rw [if_pos rfl] at HR2
   replace HR2:=Lib.hid HR2
   cases is
   ·skip
    have HR3:=HR2.out
    rw [if_neg (by decide)] at HR3
    replace HR3:=Lib.hid HR3
    go_wp2_with fail
    go_ret
    rw [← HR3.out]
    exact ⟨rfl,HFS6.out.mono (fun k h=>.inl h) (fun k h=>h.elim (fun h=>HFS6.out.lts k h) fun h=>h.2),HRQ.out,Only.of_belowV hbw6 _⟩
   ·skip
    have HR3:=HR2.out
    rw [if_pos rfl] at HR3
    replace HR3:=Lib.hid HR3
    by_cases hy:y.kind=1
    ·skip
     have HR4:=HR3.out
     rw [if_pos hy] at HR4
     replace HR4:=Lib.hid HR4
     have k2:(y.kind == 1)=true:=beq_iff_eq.2 hy
     clear hy
     obtain ⟨ly0,ly1,ly2,ly3⟩:=c4A I.out.now.1
     go_wp2_with fail
     go_ret
     rw [← HR4.out]
     exact ⟨rfl,HFS6.out.mono (fun k h=>.inl h) (fun k h=>h.elim (fun h=>HFS6.out.lts k h) fun h=>h.2),HRQ.out,Only.of_belowV hbw6 _⟩
    ·skip
     have HR4:=HR3.out
     rw [if_neg hy] at HR4
     replace HR4:=Lib.hid HR4
     have k2:(y.kind == 1)=false:=beq_eq_false_iff_ne.2 hy
     clear hy
     obtain ⟨ly0,ly1,ly2,ly3⟩:=c4A I.out.now.1
     have zr:=cell_of (j:=2) HRQ.out rfl
     have ur:=unfr HRQ.out 2
     go_wp2_with fail
     go_ret
     rw [← HR4.out]
     have hkp:FsAt (W6.setCell ⟨r,2,none⟩ (.string y.data)) g O tb f:=HFS6.out.keep (fun k h=>Below.heap_setCell _ _ _ _ (fun e=>h.elim (fun h=>hrg (e.symm.trans h)) fun h=>hrO (by have e2:k=r:=e;rw [← e2];exact h))) (by simp [World.setCell])
     exact ⟨rfl,hkp.mono (fun k h=>.inl h) (fun k h=>h.elim (fun h=>hkp.lts k h) fun h=>h.2),blk_put HRQ.out 2 (.string y.data) rfl,(Only.of_belowV hbw6 (fun k=>k=g∨k=r)).trans (Only.setCell W6 ⟨r,2,none⟩ (.string y.data)) (fun _ _ h=>h) (fun _ _ h=>.inr h)⟩
end Go.Proofs.YthlcjjhfkldmhaaGreatDoor.G
end
section
namespace Go.Proofs.YthlcjjhfkldmhaaGreatDoor.G
open Go.RowKit Go.Lib Go.Proofs.YthlcjjhfkldmhaaGreatDoorW.PrintWords Go.Proofs.YthlcjjhfkldmhaaGreatDoorW.PrintLast
set_option linter.unusedVariables false
set_option linter.unusedSimpArgs false
set_option maxHeartbeats 8000000 in
set_option maxRecDepth 100000 in
theorem append_fs (w:World) (g r:Nat) (O:Nat→Prop) (tb:Option Nat) (f:FsV) (x:Req) (Ap:Option Addr) (cp:Nat) (Ad:Option Addr) (cd:Nat) (hfs:FsAt w g O tb f) (hreq:w.heap[r]? = some (.cells #[.slice Ap x.p.length cp,.slice Ad x.dest.length cd,.string x.data,.int .u8 0,.int .i64 0] 97 (0,0))) (hrg:r≠g) (hrO:¬ O r) (hbt:f.tree.bulk≤100000000) (hp:Kd.C Kd.string w Ap x.p.length x.p) (hcp:x.p.length≤cp) (hps:P.sumP x.p≤1024) (hdb:x.data.size≤100000000) :
  Calls Tryz.prog 99 #[.pointer (some ⟨g,0,none⟩),.pointer (some ⟨r,0,none⟩)] w fun e w'=>OpPost w g r O tb f x Ap cp Ad cd (appendR f.tree x) e w':=by
 have HFS0:=Lib.hid hfs
 obtain ⟨A,c,v,m,lo,hi,hbox,hle,hiv,hsep,htr,htb,hfl,hOm,hOlt⟩:=hfs
 unfold fsCells at hbox
 have hgl:=blk_lt hbox
 have hrl:=blk_lt hreq
 have HS:=Lib.hid (fun W (h:Below w.heap.size w W)=>hiv W fun k h1 h2=>h.block k (hOlt k (hsep k h1 h2).1))
 have hlen:=P.sumP_len x.p
 have hb0:=Below.refl w.heap.size w
 have I:=Lib.hid (Hd.base hb0 (by first | exact Nat.le_refl _ | exact Below.size hb0))
 replace I:=Lib.hid (Hd.and I.out (Hd.box hbox))
 replace I:=Lib.hid (Hd.and I.out (Hd.box hreq))
 replace I:=Lib.hid (Hd.and I.out (Hd.reads (hp)))
 obtain ⟨⟨q,y,is,k⟩,hu⟩:∃ r,walkR f.tree x.p true=r:=⟨_,rfl⟩
 have HU:=Lib.hid hu
 have HRES:=Lib.hid (show appendR f.tree x=appendR f.tree x from rfl)
 obtain ⟨res,hres⟩:∃ r,appendR f.tree x=r:=⟨_,rfl⟩
 have HR:=Lib.hid (show _=res from hres)
 rw [hres]
 clear hu hres HRES hiv hsep htr hfl hOm hOlt hp hbox htb hreq
 go_enter Tryz.func99,Tryz.ntmps99
 go_wp2_with fail
 refine start_ (n:=19) (S:=fun w'=>w'.heap[g]? = some (.cells #[.string f.tree.name,.int .u8 f.tree.kind,.string f.tree.data,.slice A f.tree.files.length c,v,.map (some m)] 68 (0,0))∧w'.heap[r]? = some (.cells #[.slice Ap x.p.length cp,.slice Ad x.dest.length cd,.string x.data,.int .u8 0,.int .i64 0] 97 (0,0))) (ds:=[16]) (bq 19 0) (by kernel_rfl) rfl rfl ⟨(I.out _ (bdrew (Below.refl w.heap.size w))).2.2.1,(I.out _ (bdrew (Below.refl w.heap.size w))).2.1⟩ (fun hHeld => ?_)
 refine pA 0 10 (bq 19 1) ?_
 refine pA 1 11 (bq 19 3) ?_
 refine pA 2 12 (bq 19 7) ?_
 refine pA 4 14 (bq 19 23) ?_
 refine pA 5 15 (bq 19 55) ?_
 refine pA 6 16 (bq 19 119) ?_
 refine tA 3 13 (bq 19 127) hHeld ?_ (hy:=by
  rintro w' ⟨s0,s1⟩
  have q0:=cell_of (j:=0) s0 rfl
  have q1:=cell_of (j:=1) s0 rfl
  have q2:=cell_of (j:=2) s0 rfl
  have q3:=cell_of (j:=3) s0 rfl
  have q4:=cell_of (j:=4) s0 rfl
  have q5:=cell_of (j:=5) s0 rfl
  go_simp
  with_reducible rfl)
 refine tA 7 17 (bq 19 255) hHeld ?_ (hy:=by
  rintro w' ⟨s0,s1⟩
  have q0:=cell_of (j:=0) s1 rfl
  have q1:=cell_of (j:=1) s1 rfl
  have q2:=cell_of (j:=2) s1 rfl
  have q3:=cell_of (j:=3) s1 rfl
  have q4:=cell_of (j:=4) s1 rfl
  go_simp
  with_reducible rfl)
 refine join_ (σ:=(Option Addr×Nat×Option Addr×Nat×Nat×Nat)×Nat) 4 (bq 19 32767) (fun s=>match s with | ((B,d,A4,c4,lo1,hi1),gd)=>[(18,.tuple #[.slice B q.length d,.agg (fc y A4 c4),.bool is,.int .i64 k]),(9,.tuple #[.slice B q.length d,.agg (fc y A4 c4),.bool is,.int .i64 k]),(19,.slice B q.length d),(20,.agg (fc y A4 c4)),(21,.bool is),(22,.int .i64 k),(6,.pointer (some ⟨gd,0,none⟩))]) (fun s W=>match s with | ((B,d,A4,c4,lo1,hi1),gd)=>Below w.heap.size w W∧w.heap.size≤gd∧W.heap[gd]? = some (.cells zC 25 (0,0))∧q.length≤d∧Iv lo1 hi1 W (fun W=>Kd.C Kd.string W B q.length q)∧w.heap.size≤lo1∧hi1≤W.heap.size∧(gd<lo1∨hi1≤gd)∧y.files.length≤c4∧FileK.C w A4 y.files.length y.files) ?_ ?_
 rotate_left
 ·intro hc
  refine two_ (i:=8) (j:=14) (Ni:=some 18) (Nj:=some 6) (bq 19 511) (bq 19 16639) rfl rfl rfl rfl (by kernel_rfl) (by decide) (by decide) (fun K hK => ?_) (fun K hK => ?_)
  ·refine gA Tryz.func37 #[.agg (fc f.tree A c),.slice Ap x.p.length cp,.bool true] ?_
   refine ((show Calls Tryz.prog 37 #[.agg (fc f.tree A c),.slice Ap x.p.length cp,.bool true] _ _ from walk_calls f.tree A c Ap cp x.p true _ w ((bdrew (Below.refl w.heap.size w))) (HS.out w (Below.refl _ _)) hle (by omega) (I.out _ (bdrew (Below.refl w.heap.size w))).1 hcp (by omega) (by omega))).mono ?_
   rw [HU.out]
   rintro e w5 ⟨B,d,A4,c4,rfl,hd,hD,hc4,hC4,hq5⟩
   refine ⟨_,rfl,?_⟩
   refine hK.out _ _ (⟨(I.out _ ((bdrew (Below.refl w.heap.size w)).trans hq5)).2.2.1,(I.out _ ((bdrew (Below.refl w.heap.size w)).trans hq5)).2.1⟩) (fun _ => ?_)
   refine nA 18 ?_
   refine pA 9 9 (bq 19 1023) ?_
   refine pA 10 19 (bq 19 2047) ?_
   refine pA 11 20 (bq 19 4095) ?_
   refine pA 12 21 (bq 19 8191) ?_
   refine pA 13 22 (bq 19 16383) ?_
   refine eA 14 6 (bq 19 32767) (fun K hK => ?_)
   refine vA ?_
   refine hK.out _ _ (⟨(I.out _ (below_alloc ((bdrew (Below.refl w.heap.size w)).trans hq5) _)).2.2.1,(I.out _ (below_alloc ((bdrew (Below.refl w.heap.size w)).trans hq5) _)).2.1⟩) (fun _ => ?_)
   refine jA (hc ((B,d,A4,c4,w.drew.heap.size,w5.heap.size),w5.heap.size) _ (⟨below_alloc ((bdrew (Below.refl w.heap.size w)).trans hq5) _,((bdrew (Below.refl w.heap.size w)).trans hq5).size,blk_new w5 _,hd,Iv.mv hD fun k _ h2=>(below_alloc (Below.refl w5.heap.size w5) _).block k h2,(bdrew (Below.refl w.heap.size w)).size,(below_alloc (Below.refl w5.heap.size w5) _).size,.inr (Nat.le_refl _),hc4,hC4⟩))
  ·refine vA ?_
   refine hK.out _ _ (⟨(I.out _ (below_alloc (bdrew (Below.refl w.heap.size w)) (.cells zC 25))).2.2.1,(I.out _ (below_alloc (bdrew (Below.refl w.heap.size w)) (.cells zC 25))).2.1⟩) (fun _ => ?_)
   refine nA 6 ?_
   refine eA 8 18 (bq 19 16895) (fun K hK => ?_)
   refine gA Tryz.func37 #[.agg (fc f.tree A c),.slice Ap x.p.length cp,.bool true] ?_
   refine ((show Calls Tryz.prog 37 #[.agg (fc f.tree A c),.slice Ap x.p.length cp,.bool true] _ _ from walk_calls f.tree A c Ap cp x.p true _ w ((below_alloc (bdrew (Below.refl w.heap.size w)) (.cells zC 25))) (HS.out w (Below.refl _ _)) hle (by omega) (I.out _ (below_alloc (bdrew (Below.refl w.heap.size w)) (.cells zC 25))).1 hcp (by omega) (by omega))).mono ?_
   rw [HU.out]
   rintro e w5 ⟨B,d,A4,c4,rfl,hd,hD,hc4,hC4,hq5⟩
   refine ⟨_,rfl,?_⟩
   refine hK.out _ _ (⟨(I.out _ ((below_alloc (bdrew (Below.refl w.heap.size w)) (.cells zC 25)).trans (hq5.mono (below_alloc (Below.refl w.drew.heap.size w.drew) (.cells zC 25)).size))).2.2.1,(I.out _ ((below_alloc (bdrew (Below.refl w.heap.size w)) (.cells zC 25)).trans (hq5.mono (below_alloc (Below.refl w.drew.heap.size w.drew) (.cells zC 25)).size))).2.1⟩) (fun _ => ?_)
   refine nA 18 ?_
   refine pA 9 9 (bq 19 17407) ?_
   refine pA 10 19 (bq 19 18431) ?_
   refine pA 11 20 (bq 19 20479) ?_
   refine pA 12 21 (bq 19 24575) ?_
   refine pA 13 22 (bq 19 32767) ?_
   refine jA (hc ((B,d,A4,c4,(w.drew.alloc (.cells zC 25)).heap.size,w5.heap.size),w.heap.size) _ (⟨((below_alloc (bdrew (Below.refl w.heap.size w)) (.cells zC 25)).trans (hq5.mono (below_alloc (Below.refl w.drew.heap.size w.drew) (.cells zC 25)).size)),Nat.le_refl _,(hq5.block _ (blk_lt (blk_new w.drew (.cells zC 25)))).trans (blk_new w.drew (.cells zC 25)),hd,hD,(below_alloc (bdrew (Below.refl w.heap.size w)) (.cells zC 25)).size,Nat.le_refl _,.inl (blk_lt (blk_new w.drew (.cells zC 25))),hc4,hC4⟩))
 ·rintro ⟨⟨B,d,A4,c4,lo1,hi1⟩,gd⟩ W hF
  refine uA ?_
  obtain ⟨hbW,hgd,hzz,hd,hD,hlo1,hhi1,hsp,hc4,hC4⟩:=hF
  have hHeld:=(show W.heap[g]? = some (.cells #[.string f.tree.name,.int .u8 f.tree.kind,.string f.tree.data,.slice A f.tree.files.length c,v,.map (some m)] 68 (0,0))∧W.heap[r]? = some (.cells #[.slice Ap x.p.length cp,.slice Ad x.dest.length cd,.string x.data,.int .u8 0,.int .i64 0] 97 (0,0)) from ⟨(I.out _ hbW).2.2.1,(I.out _ hbW).2.1⟩)
  refine pA 15 5 (bq 19 65535) ?_
  refine last_ (i:=16) (N:=none) (bq 19 131071) rfl rfl (by kernel_rfl) (by decide) (fun K hK => ?_)
  obtain ⟨zc0,zc1,zc2,zc3⟩:=c4A hzz
  obtain ⟨zu0,zu1,zu2,zu3⟩:=u4A hzz
  refine sA ?_
  refine hK.out _ _ ?_
  refine pA 17 7 (bq 19 262143) ?_
  refine pA 18 8 (bq 19 524287) ?_
  refine done_ (by kernel_rfl) ?_
  have hq6:=store4_below hbW (g:=gd) hgd (.string y.name) (.int .u8 y.kind) (.string y.data) (.slice A4 y.files.length c4)
  have hd6:=store4_box hzz (.string y.name) (.int .u8 y.kind) (.string y.data) (.slice A4 y.files.length c4)
  replace I:=Lib.hid (Hd.mv I.out hq6)
  replace I:=Lib.hid (Hd.and I.out (Hd.box (hd6)))
  have hIV6:=Lib.hid (hD.mv (w':=((((W.setCell ⟨gd,0,none⟩ (.string y.name)).setCell ⟨gd,1,none⟩ (.int .u8 y.kind)).setCell ⟨gd,2,none⟩ (.string y.data)).setCell ⟨gd,3,none⟩ (.slice A4 y.files.length c4))) fun k h1 h2=>store4_other W (g:=gd) (by omega) _ _ _ _)
  have HCY:=Lib.hid hC4
  have hsz6:((((W.setCell ⟨gd,0,none⟩ (.string y.name)).setCell ⟨gd,1,none⟩ (.int .u8 y.kind)).setCell ⟨gd,2,none⟩ (.string y.data)).setCell ⟨gd,3,none⟩ (.slice A4 y.files.length c4)).heap.size=W.heap.size:=by simp [World.setCell]
  have hhi6:hi1≤((((W.setCell ⟨gd,0,none⟩ (.string y.name)).setCell ⟨gd,1,none⟩ (.int .u8 y.kind)).setCell ⟨gd,2,none⟩ (.string y.data)).setCell ⟨gd,3,none⟩ (.slice A4 y.files.length c4)).heap.size:=by omega
  clear zc0 zc1 zc2 zc3 zu0 zu1 zu2 zu3 hHeld hK hd6 hD hC4 hsz6 hzz hsp hhi1
  generalize ((((W.setCell ⟨gd,0,none⟩ (.string y.name)).setCell ⟨gd,1,none⟩ (.int .u8 y.kind)).setCell ⟨gd,2,none⟩ (.string y.data)).setCell ⟨gd,3,none⟩ (.slice A4 y.files.length c4))=W6 at *
  have hbw6:=I.out.now.2.2.2.2
  have HFS6:=Lib.hid (HFS0.out.below hbw6)
  have hs6:=hbw6.size
  have HR1:=HR.out
  unfold appendR at HR1
  rw [HU.out] at HR1
  simp only at HR1
  replace HR1:=Lib.hid HR1
  have HRQ:=Lib.hid I.out.now.2.2.1
  clear HR
  by_cases hk:k=0
  rotate_left
  ·skip
   have HR2:=HR1.out
   rw [if_neg hk] at HR2
   replace HR2:=Lib.hid HR2
   have k1:(k != 0)=true:=by rw [bne_iff_ne];exact hk
   have k1e:(k == 0)=false:=beq_eq_false_iff_ne.2 hk
   clear hk
   go_wp2_with fail
   go_ret
   rw [← HR2.out]
   exact ⟨rfl,HFS6.out.mono (fun k h=>.inl h) (fun k h=>h.elim (fun h=>HFS6.out.lts k h) fun h=>h.2),HRQ.out,Only.of_belowV hbw6 _⟩
  ·skip
   subst hk
   have HR2:=HR1.out
   rw [if_pos rfl] at HR2
   replace HR2:=Lib.hid HR2
   cases is
   ·skip
    have HR3:=HR2.out
    rw [if_neg (by decide)] at HR3
    replace HR3:=Lib.hid HR3
    go_wp2_with fail
    go_ret
    rw [← HR3.out]
    exact ⟨rfl,HFS6.out.mono (fun k h=>.inl h) (fun k h=>h.elim (fun h=>HFS6.out.lts k h) fun h=>h.2),HRQ.out,Only.of_belowV hbw6 _⟩
   ·skip
    have HR3:=HR2.out
    rw [if_pos rfl] at HR3
    replace HR3:=Lib.hid HR3
    by_cases hy:y.kind=1
    ·skip
     have HR4:=HR3.out
     rw [if_pos hy] at HR4
     replace HR4:=Lib.hid HR4
     have k2:(y.kind == 1)=true:=beq_iff_eq.2 hy
     clear hy
     obtain ⟨ly0,ly1,ly2,ly3⟩:=c4A I.out.now.1
     go_wp2_with fail
     go_ret
     rw [← HR4.out]
     exact ⟨rfl,HFS6.out.mono (fun k h=>.inl h) (fun k h=>h.elim (fun h=>HFS6.out.lts k h) fun h=>h.2),HRQ.out,Only.of_belowV hbw6 _⟩
    ·skip
     have HR4:=HR3.out
     rw [if_neg hy] at HR4
     replace HR4:=Lib.hid HR4
     have k2:(y.kind == 1)=false:=beq_eq_false_iff_ne.2 hy
     clear hy
     obtain ⟨ly0,ly1,ly2,ly3⟩:=c4A I.out.now.1
     have hqs:=walk_sum f.tree x.p true
     have hyb:=walk_bulk f.tree x.p true
     rw [HU.out] at hqs hyb
     simp only at hqs hyb
     have hql:=P.sumP_len q
     have HQN:Hid (∀ n∈q,n.size≤1000000000):=Lib.hid fun n hn=>by have:=sumP_in hn;omega
     have hyd:=bulk_eq y
     have HTB:Hid ((textF (y.data++x.data)).bulk≤1000000000):=Lib.hid (by
      rw [textF_bulk]
      have h1:(y.data++x.data).size=y.data.size+x.data.size:=by simp
      omega)
     have HFSM:=Lib.hid (show FsAt W6 g (fun k=>O k∨w.heap.size≤k∧k<W6.heap.size) tb f from HFS6.out.mono (fun k h=>.inl h) (fun k h=>h.elim (fun h=>HFS6.out.lts k h) fun h=>h.2))
     have hhq:hi1≤W6.heap.size:=hhi6
     have HYX:Hid (¬ 9223372036854775807<y.data.size+x.data.size):=Lib.hid (by omega)
     clear hyd
     go_wp2_with fail
     clear ly0 ly1 ly2 ly3
     refine start_ (n:=12) (S:=fun w'=>w'.heap[gd]? = some (.cells (fc y A4 c4) 25 (0,0))∧w'.heap[r]? = some (.cells #[.slice Ap x.p.length cp,.slice Ad x.dest.length cd,.string x.data,.int .u8 0,.int .i64 0] 97 (0,0))) (ds:=[]) (bq 12 0) (by kernel_rfl) rfl rfl ⟨(I.out _ (bdrew (Below.refl W6.heap.size W6))).1,(I.out _ (bdrew (Below.refl W6.heap.size W6))).2.2.1⟩ (fun hHeld => ?_)
     refine pA 0 34 (bq 12 1) ?_
     refine pA 1 35 (bq 12 3) ?_
     refine pA 2 36 (bq 12 7) ?_
     refine pA 4 38 (bq 12 23) ?_
     refine pA 5 39 (bq 12 55) ?_
     refine pA 6 40 (bq 12 119) ?_
     refine tA 3 37 (bq 12 127) hHeld ?_ (hy:=by
      rintro w' ⟨s0,s1⟩
      have q2:=cell_of (j:=2) s0 rfl
      go_simp
      with_reducible rfl)
     refine tA 7 41 (bq 12 255) hHeld ?_ (hy:=by
      rintro w' ⟨s0,s1⟩
      have q2:=cell_of (j:=2) s1 rfl
      go_simp
      with_reducible rfl)
     refine pB 8 42 (bq 12 511) ?_ (hy:=by
      intro w'
      go_simp
      rw [if_neg HYX.out])
     refine pA 9 43 (bq 12 1023) ?_
     refine eA 10 44 (bq 12 2047) (fun K hK => ?_)
     refine gA Tryz.func112 #[.pointer (some ⟨g,0,none⟩),.slice B q.length d,.agg #[.string ⟨#[]⟩,.int .u8 2,.string (y.data++x.data),.slice none 0 0]] ?_
     refine (show Calls Tryz.prog 112 #[.pointer (some ⟨g,0,none⟩),.slice B q.length d,.agg #[.string ⟨#[]⟩,.int .u8 2,.string (y.data++x.data),.slice none 0 0]] _ _ from put_calls_fs _ g (fun k=>O k∨w.heap.size≤k∧k<W6.heap.size) tb f B d q (textF (y.data++x.data)) none 0 ((HFSM.out).below (bdrew (Below.refl W6.heap.size W6))) (by omega) (hIV6.out.mv fun k _ h2=>((bdrew (Below.refl W6.heap.size W6))).block k (by omega)).now hd (by omega) HQN.out (Kd.C_nil FileK _) (Nat.le_refl _) HTB.out).mono ?_
     rintro e w9 ⟨rfl,hfs9,ho9⟩
     refine ⟨_,rfl,?_⟩
     have hr9:=ho9.block r (Nat.lt_of_lt_of_le hrl hs6) hrg
     refine hK.out _ _ ⟨(ho9.block gd (blk_lt I.out.now.1) (by omega)).trans I.out.now.1,hr9.trans I.out.now.2.2.1⟩ (fun _ => ?_)
     refine nA 44 ?_
     refine pA 11 4 (bq 12 4095) ?_
     refine done_ (by kernel_rfl) ?_
     go_wp2_with fail
     go_ret
     rw [← HR4.out]
     have ho6:Only (fun k=>k=g) W6 w9:=⟨ho9.os,ho9.tape,ho9.output,ho9.size,ho9.block⟩
     have hs9:=ho6.size
     exact ⟨rfl,hfs9.mono (fun k h=>h.elim (fun h=>h.elim .inl fun h=>.inr ⟨h.1,by omega⟩) fun h=>.inr ⟨Nat.le_trans hs6 h.1,h.2⟩) (fun k h=>h.elim (fun h=>Nat.lt_of_lt_of_le (HFS6.out.lts k h) hs9) fun h=>h.2),hr9.trans HRQ.out,(Only.of_belowV hbw6 (fun k=>k=g∨k=r)).trans ho6 (fun _ _ h=>h) (fun _ _ h=>.inl h)⟩
end Go.Proofs.YthlcjjhfkldmhaaGreatDoor.G
end
end
end
