import Derived.Test.YtdnhjnlhmfajnaaGreatDoorIdx
import Derived.Test.YtdnhjnlhmfajnaaGreatDoorQWords
import Derived.WideMake
import Derived.Carry
import Derived.MapKept
import Derived.Test.YtdnhjnlhmfajnaaGreatDoorTFile
import Derived.Shelf.LaysM
import Derived.Test.YtdnhjnlhmfajnaaGreatDoorProg
import Derived.Shelf.SlSortCmp.Whole1
import Derived.Shelf.SlGeneric
import Derived.Test.YtdnhjnlhmfajnaaGreatDoorTPathK
import Derived.Test.YtdnhjnlhmfajnaaGreatDoorRangeR
import Derived.Test.YtdnhjnlhmfajnaaGreatDoorQShare
import Derived.Shelf.SlSortCmp.NoneTotal
import Derived.Test.YtdnhjnlhmfajnaaGreatDoorSq
import Derived.Test.YtdnhjnlhmfajnaaGreatDoorTLine
import Derived.Test.YtdnhjnlhmfajnaaGreatDoorTRight
import Derived.Test.YtdnhjnlhmfajnaaGreatDoorTShown
import Derived.Test.YtdnhjnlhmfajnaaGreatDoorTEach
import Derived.Test.YtdnhjnlhmfajnaaGreatDoorKit
import Derived.RangeFuncNested
import Derived.RangeFuncBound
import Derived.RangeFuncCalls
import Derived.RangeFuncLeaves
import Derived.Shelf.Abstract
import Derived.WalkKit
import Derived.OwnWalkIn
import Derived.TacticsInMore
import Derived.LoopNIn
import Derived.LoopIn
import Derived.Test.YtdnhjnlhmfajnaaGreatDoorTCopy
import Derived.Test.YtdnhjnlhmfajnaaGreatDoorTBelow
import Derived.RangeFuncBox
import Derived.Test.YtdnhjnlhmfajnaaGreatDoorRoundOp
import Derived.Test.YtdnhjnlhmfajnaaGreatDoorTKept
import Derived.Test.YtdnhjnlhmfajnaaGreatDoorAppIn
set_option linter.unusedVariables false
set_option linter.unusedSimpArgs false
section
namespace Go.Proofs.YtdnhjnlhmfajnaaGreatDoor.G
open Go.RowKit Go.Lib Go.Proofs.YtdnhjnlhmfajnaaGreatDoorW.PrintWords
set_option linter.unusedVariables false
def Hd (P:World→Prop) (w:World):Prop:=∀ W,Below w.heap.size w W→P W
theorem Hd.now {P:World→Prop} {w:World} (h:Hd P w):P w:=h w (Below.refl _ _)
theorem Hd.mv {P:World→Prop} {w w':World} (h:Hd P w) (hb:Below w.heap.size w w'):Hd P w':=fun W hW=>h W (hb.trans (hW.mono hb.size))
theorem Hd.and {P Q:World→Prop} {w:World} (h:Hd P w) (k:Hd Q w):Hd (fun W=>Q W∧P W) w:=fun W hW=>⟨k W hW,h W hW⟩
theorem Hd.box {w:World} {g:Nat} {o:Obj} (h:w.heap[g]? = some o):Hd (fun W=>W.heap[g]? = some o) w:=fun W hW=>(hW.block g (by
 rcases Nat.lt_or_ge g w.heap.size with hg | hg
 ·exact hg
 ·rw [Array.getElem?_eq_none hg] at h;cases h)).trans h
theorem Hd.reads {α:Type} {d:Kd α} {w:World} {A:Option Addr} {n:Nat} {xs:List α} (h:d.C w A n xs):Hd (fun W=>d.C W A n xs) w:=fun W hW=>Kd.C_below h hW
theorem Hd.rows {α:Type} {d:Kd α} {e:Nat} {w:World} {base:Nat} {ok:Nat→Prop} {v:Value} {xs:List α} (h:d.R e w base ok v xs):Hd (fun W=>d.R e W base ok v xs) w:=fun W hW=>Kd.R_below h hW
theorem Hd.base {B:Nat} {a w:World} (h:Below B a w) (hB:B≤w.heap.size):Hd (fun W=>Below B a W) w:=fun W hW=>h.trans (hW.mono hB)
end Go.Proofs.YtdnhjnlhmfajnaaGreatDoor.G
end
section
namespace Go.Proofs.YtdnhjnlhmfajnaaGreatDoor.G
open Go.RowKit Go.Shelf Go.Lib Go.Proofs.YtdnhjnlhmfajnaaGreatDoorW.PrintWords
set_option linter.unusedVariables false
def Mapped (W:World) (m:Nat) (l:List (ByteArray×Value)):Prop:=∃ es clock,W.heap[m]? = some (.map es clock)∧es.toList.map (fun e=>(e.key,e.val))=l.map (fun x=>(Value.string x.1,x.2))∧l.Pairwise (fun a b=>a.1≠b.1)
def hasK (l:List (ByteArray×Value)) (s:ByteArray):Bool:=(l.find? (fun x=>decide (x.1=s))).isSome
def getK (l:List (ByteArray×Value)) (s:ByteArray) (z:Value):Value:=((l.find? (fun x=>decide (x.1=s))).map (·.2)).getD z
def putK (l:List (ByteArray×Value)) (s:ByteArray) (v:Value):List (ByteArray×Value):=if hasK l s then l.map (fun x=>if x.1=s then (s,v) else x) else l++[(s,v)]
def delK (l:List (ByteArray×Value)) (s:ByteArray):List (ByteArray×Value):=l.filter (fun x => !decide (x.1=s))
theorem Mapped.mv {W W':World} {m:Nat} {l:List (ByteArray×Value)} (h:Mapped W m l) (hm:W'.heap[m]? = W.heap[m]?):Mapped W' m l:=by
 obtain ⟨es,clock,h1,h2⟩:=h
 exact ⟨es,clock,hm.trans h1,h2⟩
theorem Mapped.lt {W:World} {m:Nat} {l:List (ByteArray×Value)} (h:Mapped W m l):m<W.heap.size:=by
 obtain ⟨es,clock,h1,h2⟩:=h
 rcases Nat.lt_or_ge m W.heap.size with hg | hg
 ·exact hg
 ·rw [Array.getElem?_eq_none hg] at h1;cases h1
theorem Mapped.made (w:World):Mapped (w.alloc (.map #[] 0)) w.heap.size []:=⟨#[],0,World.alloc_heap_new w _,rfl,.nil⟩
theorem key_find {s:ByteArray} {v:Value}:∀ (l:List (ByteArray×Value)) (j:Nat),l.Pairwise (fun a b=>a.1≠b.1)→l[j]? = some (s,v)→l.find? (fun x=>decide (x.1=s))=some (s,v)
 | [],j,_,h=>by simp at h
 | x :: l,0,_,h=>by
  have:x=(s,v):=by simpa using h
  subst this
  simp
 | x :: l,j+1,hp,h=>by
  have h':l[j]? = some (s,v):=by simpa using h
  rw [List.pairwise_cons] at hp
  have hne:=hp.1 _ (List.mem_of_getElem? h')
  rw [List.find?_cons_of_neg (by simpa using hne)]
  exact key_find l j hp.2 h'
theorem key_erase {s:ByteArray} {v:Value}:∀ (l:List (ByteArray×Value)) (j:Nat),l.Pairwise (fun a b=>a.1≠b.1)→l[j]? = some (s,v)→l.eraseIdx j=delK l s
 | [],j,_,h=>by simp at h
 | x :: l,0,hp,h=>by
  have:x=(s,v):=by simpa using h
  subst this
  rw [List.pairwise_cons] at hp
  have hf:l.filter (fun x => !decide (x.1=s))=l:=List.filter_eq_self.2 fun y hy=>by simpa using Ne.symm (hp.1 y hy)
  simp [delK,hf]
 | x :: l,j+1,hp,h=>by
  have h':l[j]? = some (s,v):=by simpa using h
  rw [List.pairwise_cons] at hp
  have hne:=hp.1 _ (List.mem_of_getElem? h')
  have:=key_erase l j hp.2 h'
  unfold delK at this ⊢
  rw [List.filter_cons_of_pos (by simpa using hne),List.eraseIdx_cons_succ,this]
theorem map_eraseIdx' {α β:Type} (f:α→β):∀ (l:List α) (j:Nat),(l.eraseIdx j).map f=(l.map f).eraseIdx j
 | [],_=>by simp
 | _ :: _,0=>by simp
 | a :: r,j+1=>by simp [map_eraseIdx' f r j]
theorem key_none {s:ByteArray} {l:List (ByteArray×Value)} (h:∀ x∈l,x.1≠s):l.find? (fun x=>decide (x.1=s))=none:=List.find?_eq_none.2 fun x hx=>by simpa using h x hx
theorem key_del_none {s:ByteArray} {l:List (ByteArray×Value)} (h:∀ x∈l,x.1≠s):delK l s=l:=List.filter_eq_self.2 fun x hx=>by simpa using h x hx
theorem mapped_find {es:Array MapEntry} {l:List (ByteArray×Value)} (hm:es.toList.map (fun e=>(e.key,e.val))=l.map (fun x=>(Value.string x.1,x.2))) (s:ByteArray) :
  (Instr.findNow .string (.string s) es.toList 0=some none∧∀ x∈l,x.1≠s)∨∃ j v e,Instr.findNow .string (.string s) es.toList 0=some (some (j,v))∧l[j]? = some (s,v)∧es[j]? = some e∧e.key=.string s∧e.val=v:=by
 have hks:∀ x∈es.toList,MapKept.IsKey .string x.key:=fun x hx=>by
  have h1:(x.key,x.val)∈l.map (fun x=>(Value.string x.1,x.2)):=by rw [← hm];exact List.mem_map.2 ⟨x,hx,rfl⟩
  obtain ⟨y,_,hy⟩:=List.mem_map.1 h1
  injection hy with hy _
  rw [← hy]
  trivial
 rcases MapKept.findNow_spec (d:=.string) (k:=.string s) trivial es.toList 0 hks with ⟨h1,h2⟩ | ⟨j,e0,h1,h2,h3⟩
 ·refine .inl ⟨h1,fun x hx e => ?_⟩
  have h4:(Value.string x.1,x.2)∈es.toList.map (fun e=>(e.key,e.val)):=by rw [hm];exact List.mem_map.2 ⟨x,hx,rfl⟩
  obtain ⟨y,hy,hye⟩:=List.mem_map.1 h4
  injection hye with hye _
  exact h2 y hy (by rw [hye,e])
 ·rw [Nat.zero_add] at h1
  refine .inr ⟨j,e0.val,e0,h1,?_,by rw [← Array.getElem?_toList];exact h2,h3,rfl⟩
  have h4:=congrArg (fun z=>z[j]?) hm
  simp only [List.getElem?_map,h2,Option.map_some] at h4
  cases hl:l[j]? with
  | none=>rw [hl] at h4;simp at h4
  | some y =>
   rw [hl] at h4
   simp only [Option.map_some,Option.some.injEq,Prod.mk.injEq] at h4
   rw [h3] at h4
   obtain ⟨y1,y2⟩:=y
   simp only [Value.string.injEq] at h4
   rw [h4.1,h4.2]
theorem mapped_lookup {P:Program} {t kt et:TypeId} (ht:P.underlying t=some (.map kt et)) (hk:P.underlying kt=some .string) {W:World} {m:Nat} {l:List (ByteArray×Value)} (h:Mapped W m l) (s:ByteArray) {z:Value} (hz:(zeroValue et).run P W=.ok z W) :
  (Instr.lookup t (.map (some m)) (.string s) true).run P W=.ok (.tuple #[getK l s z,.bool (hasK l s)]) W:=by
 obtain ⟨es,clock,hb,hm,hp⟩:=h
 have hc:∀ b,(Instr.checkKey b 10000 kt (.string s)).run P W=.ok () W:=fun b=>MapKept.run_checkKey hk (by simp [MapKept.IsKey]) b 9999
 rcases mapped_find hm s with ⟨hf,hn⟩ | ⟨j,v,e,hf,hl,_⟩
 ·have h1:=key_none hn
  simp [Instr.lookup,run_underlying ht,MapKept.run_getObj_map hb,hc,MapKept.run_findKey hk hf,Result.andThen,hz,getK,hasK,h1]
 ·have h1:=key_find l j hp hl
  simp [Instr.lookup,run_underlying ht,MapKept.run_getObj_map hb,hc,MapKept.run_findKey hk hf,Result.andThen,getK,hasK,h1]
theorem key_put {s:ByteArray} {v u:Value} (l:List (ByteArray×Value)) (j:Nat) (hp:l.Pairwise (fun a b=>a.1≠b.1)) (h:l[j]? = some (s,u)):l.map (fun x=>if x.1=s then (s,v) else x)=l.set j (s,v):=by
 apply List.ext_getElem?
 intro i
 rw [List.getElem?_map,List.getElem?_set]
 by_cases hij:j=i
 ·subst hij
  have hlt:=(List.getElem?_eq_some_iff.1 h).1
  rw [h,if_pos rfl,if_pos hlt]
  simp
 ·rw [if_neg hij]
  cases hi:l[i]? with
  | none=>rfl
  | some x =>
   simp only [Option.map_some]
   have hx:x.1≠s:=by
    obtain ⟨h1,h2⟩:=List.getElem?_eq_some_iff.1 h
    obtain ⟨h3,h4⟩:=List.getElem?_eq_some_iff.1 hi
    rcases Nat.lt_or_gt_of_ne hij with hlt | hlt
    ·have:=(List.pairwise_iff_getElem.1 hp) j i h1 h3 hlt
     rw [h2,h4] at this
     exact Ne.symm this
    ·have:=(List.pairwise_iff_getElem.1 hp) i j h3 h1 hlt
     rw [h2,h4] at this
     exact this
   rw [if_neg hx]
theorem put_pairwise {s:ByteArray} {v:Value} {l:List (ByteArray×Value)} (hp:l.Pairwise (fun a b=>a.1≠b.1)):(putK l s v).Pairwise (fun a b=>a.1≠b.1):=by
 unfold putK
 split
 ·rw [List.pairwise_map]
  refine hp.imp fun {a b} h => ?_
  by_cases h1:a.1=s
  ·by_cases h2:b.1=s
   ·exact absurd (h1.trans h2.symm) h
   ·rw [if_pos h1,if_neg h2];exact Ne.symm h2
  ·by_cases h2:b.1=s
   ·rw [if_neg h1,if_pos h2];exact h1
   ·rw [if_neg h1,if_neg h2];exact h
 ·rename_i h
  unfold hasK at h
  rw [Bool.not_eq_true,Option.isSome_eq_false_iff,Option.isNone_iff_eq_none,List.find?_eq_none] at h
  rw [List.pairwise_append]
  refine ⟨hp,List.pairwise_singleton _ _,fun a ha b hb => ?_⟩
  rw [List.mem_singleton] at hb
  subst hb
  simpa using h a ha
theorem mapped_update {P:Program} {t kt et:TypeId} (ht:P.underlying t=some (.map kt et)) (hk:P.underlying kt=some .string) {W:World} {m:Nat} {l:List (ByteArray×Value)} (h:Mapped W m l) (s:ByteArray) (v:Value) :
  ∃ o,(Instr.mapUpdate t (.map (some m)) (.string s) v).run P W=.ok () (W.putObj m o)∧Mapped (W.putObj m o) m (putK l s v):=by
 have hlt:=h.lt
 obtain ⟨es,clock,hb,hm,hp⟩:=h
 have hc:∀ b,(Instr.checkKey b 10000 kt (.string s)).run P W=.ok () W:=fun b=>MapKept.run_checkKey hk (by simp [MapKept.IsKey]) b 9999
 rcases mapped_find hm s with ⟨hf,hn⟩ | ⟨j,u,e,hf,hl,hej,hek,hev⟩
 ·have hh:hasK l s=false:=by unfold hasK;rw [key_none hn];rfl
  refine ⟨.map (es.push {key:=.string s,val:=v,born:=clock}) (clock+1),?_,?_⟩
  ·simp [Instr.mapUpdate,run_underlying ht,MapKept.run_getObj_map hb,hc,MapKept.run_findKey hk hf,MapKept.run_setObj_map _ hb,Result.andThen,World.putObj]
  ·refine ⟨_,clock+1,World.putObj_heap_same hlt,?_,put_pairwise hp⟩
   simp [putK,hh,hm]
 ·have hh:hasK l s=true:=by unfold hasK;rw [key_find l j hp hl];rfl
  have hks:=MapKept.run_keyThatStays (P:=P) (w:=W) (d:=.string) (k:=.string s) trivial
  refine ⟨.map (es.modify j fun e=>{e with key:=.string s,val:=v}) clock,?_,?_⟩
  ·simp [Instr.mapUpdate,run_underlying ht,MapKept.run_getObj_map hb,hc,MapKept.run_findKey hk hf,hej,hek,hks,MapKept.run_setObj_map _ hb,Result.andThen,World.putObj]
  ·refine ⟨_,clock,World.putObj_heap_same hlt,?_,put_pairwise hp⟩
   rw [putK,if_pos hh,key_put l j hp hl,List.map_set,← hm]
   apply List.ext_getElem?
   intro i
   rw [List.getElem?_map,Array.getElem?_toList,Array.getElem?_modify,List.getElem?_set,List.length_map]
   by_cases hij:j=i
   ·subst hij
    have hjl:j<es.toList.length:=by have:=(Array.getElem?_eq_some_iff.1 hej).1;simpa using this
    rw [if_pos rfl,if_pos rfl,if_pos hjl,hej]
    rfl
   ·rw [if_neg hij,if_neg hij,List.getElem?_map,Array.getElem?_toList]
theorem mapped_delete {P:Program} {t kt et ty:TypeId} (ht:P.underlying t=some (.map kt et)) (hk:P.underlying kt=some .string) {W:World} {m:Nat} {l:List (ByteArray×Value)} (h:Mapped W m l) (s:ByteArray) :
  ∃ o,(Builtin.delete_ #[t,kt] ty #[.map (some m),.string s]).run P W=.ok (.tuple #[]) (W.putObj m o)∧Mapped (W.putObj m o) m (delK l s):=by
 have hlt:=h.lt
 obtain ⟨es,clock,hb,hm,hp⟩:=h
 have hc:∀ b,(Instr.checkKey b 10000 kt (.string s)).run P W=.ok () W:=fun b=>MapKept.run_checkKey hk (by simp [MapKept.IsKey]) b 9999
 rcases mapped_find hm s with ⟨hf,hn⟩ | ⟨j,u,e,hf,hl,hej,hek,hev⟩
 ·refine ⟨.map es clock,?_,?_⟩
  ·simp [Builtin.delete_,run_underlying ht,MapKept.run_getObj_map hb,hc,MapKept.run_findKey hk hf,MapKept.run_setObj_map _ hb,Result.andThen,World.putObj]
  ·rw [key_del_none hn]
   exact ⟨es,clock,World.putObj_heap_same hlt,hm,hp⟩
 ·refine ⟨.map (es.eraseIdxIfInBounds j) clock,?_,?_⟩
  ·simp [Builtin.delete_,run_underlying ht,MapKept.run_getObj_map hb,hc,MapKept.run_findKey hk hf,MapKept.run_setObj_map _ hb,Result.andThen,World.putObj]
  ·refine ⟨_,clock,World.putObj_heap_same hlt,?_,hp.filter _⟩
   have hjs:j<es.size:=(Array.getElem?_eq_some_iff.1 hej).1
   have hsub:(es.eraseIdxIfInBounds j).toList=es.toList.eraseIdx j:=by
    unfold Array.eraseIdxIfInBounds
    rw [dif_pos hjs]
    simp
   rw [hsub,← key_erase l j hp hl,map_eraseIdx',map_eraseIdx',hm]
end Go.Proofs.YtdnhjnlhmfajnaaGreatDoor.G
end
section
namespace Go.Proofs.YtdnhjnlhmfajnaaGreatDoor.G
open Go.RowKit Go.Shelf Go.Lib Go.Proofs.YtdnhjnlhmfajnaaGreatDoorW.PrintWords
set_option linter.unusedVariables false
def kdL:List Value→Option (Int×ByteArray)
 | [.string _,.int .u8 k,.string d,.slice _ _ _]=>some (k,d)
 | _=>none
def kdV:Value→Option (Int×ByteArray)
 | .agg cs=>kdL cs.toList
 | _=>none
theorem kdV_some {v:Value} {x:Int×ByteArray} (h:kdV v=some x):∃ n A m c,v=.agg #[.string n,.int .u8 x.1,.string x.2,.slice A m c]:=by
 cases v with
 | agg cs =>
  have h:kdL cs.toList=some x:=h
  unfold kdL at h
  split at h
  ·rename_i e
   injection h with h
   subst h
   exact ⟨_,_,_,_,congrArg Value.agg (Array.toList_inj.1 e)⟩
  ·cases h
 | _=>cases h
abbrev SeenQ:=List (ByteArray×(Int×ByteArray))
def lookQ (q:SeenQ) (s:ByteArray):Option (Int×ByteArray):=(q.find? (fun y=>decide (y.1=s))).map (·.2)
def setQ (q:SeenQ) (s:ByteArray) (x:Int×ByteArray):SeenQ:=if (lookQ q s).isSome then q.map (fun y=>if y.1=s then (s,x) else y) else q++[(s,x)]
def delQ (q:SeenQ) (s:ByteArray):SeenQ:=q.filter (fun y => !decide (y.1=s))
def Seen (W:World) (m:Nat) (q:SeenQ):Prop:=∃ l,Mapped W m l∧l.map (fun e=>(e.1,kdV e.2))=q.map (fun y=>(y.1,some y.2))
theorem Seen.mv {W W':World} {m:Nat} {q:SeenQ} (h:Seen W m q) (hm:W'.heap[m]? = W.heap[m]?):Seen W' m q:=by
 obtain ⟨l,h1,h2⟩:=h
 exact ⟨l,h1.mv hm,h2⟩
theorem Seen.lt {W:World} {m:Nat} {q:SeenQ} (h:Seen W m q):m<W.heap.size:=by
 obtain ⟨l,h1,h2⟩:=h
 exact h1.lt
theorem Seen.made (w:World):Seen (w.alloc (.map #[] 0)) w.heap.size []:=⟨[],Mapped.made w,rfl⟩
theorem seen_find (s:ByteArray):∀ (l:List (ByteArray×Value)) (q:SeenQ),l.map (fun e=>(e.1,kdV e.2))=q.map (fun y=>(y.1,some y.2)) →
  (l.find? (fun e=>decide (e.1=s))).map (fun e=>(e.1,kdV e.2))=(q.find? (fun y=>decide (y.1=s))).map (fun y=>(y.1,some y.2))
 | [],[],_=>rfl
 | [],y :: q,h=>by simp at h
 | e :: l,[],h=>by simp at h
 | e :: l,y :: q,h=>by
  simp only [List.map_cons,List.cons.injEq,Prod.mk.injEq] at h
  obtain ⟨⟨h1,h2⟩,h3⟩:=h
  by_cases hs:e.1=s
  ·rw [List.find?_cons_of_pos (by simpa using hs),List.find?_cons_of_pos (by simpa [← h1] using hs)]
   simp [h1,h2]
  ·rw [List.find?_cons_of_neg (by simpa using hs),List.find?_cons_of_neg (by simpa [← h1] using hs)]
   exact seen_find s l q h3
theorem seen_del (s:ByteArray):∀ (l:List (ByteArray×Value)) (q:SeenQ),l.map (fun e=>(e.1,kdV e.2))=q.map (fun y=>(y.1,some y.2)) →
  (delK l s).map (fun e=>(e.1,kdV e.2))=(delQ q s).map (fun y=>(y.1,some y.2))
 | [],[],_=>rfl
 | [],y :: q,h=>by simp at h
 | e :: l,[],h=>by simp at h
 | e :: l,y :: q,h=>by
  simp only [List.map_cons,List.cons.injEq,Prod.mk.injEq] at h
  obtain ⟨⟨h1,h2⟩,h3⟩:=h
  have ih:=seen_del s l q h3
  unfold delK delQ at *
  by_cases hs:e.1=s
  ·rw [List.filter_cons_of_neg (by simpa using hs),List.filter_cons_of_neg (by simpa [← h1] using hs)]
   exact ih
  ·rw [List.filter_cons_of_pos (by simpa using hs),List.filter_cons_of_pos (by simpa [← h1] using hs),List.map_cons,List.map_cons,ih,h1,h2]
theorem seen_has {l:List (ByteArray×Value)} {q:SeenQ} (h:l.map (fun e=>(e.1,kdV e.2))=q.map (fun y=>(y.1,some y.2))) (s:ByteArray):hasK l s=(lookQ q s).isSome:=by
 have h1:=congrArg Option.isSome (seen_find s l q h)
 unfold hasK lookQ
 simpa using h1
theorem seen_put (s:ByteArray) {v:Value} {x:Int×ByteArray} (hv:kdV v=some x) {l:List (ByteArray×Value)} {q:SeenQ} (h:l.map (fun e=>(e.1,kdV e.2))=q.map (fun y=>(y.1,some y.2))) :
  (putK l s v).map (fun e=>(e.1,kdV e.2))=(setQ q s x).map (fun y=>(y.1,some y.2)):=by
 unfold putK setQ
 rw [seen_has h]
 split
 ·have go:∀ (l:List (ByteArray×Value)) (q:SeenQ),l.map (fun e=>(e.1,kdV e.2))=q.map (fun y=>(y.1,some y.2)) →
    (l.map (fun x=>if x.1=s then (s,v) else x)).map (fun e=>(e.1,kdV e.2))=(q.map (fun y=>if y.1=s then (s,x) else y)).map (fun y=>(y.1,some y.2)):=by
   intro l
   induction l with
   | nil=>intro q h;cases q with
    | nil=>rfl
    | cons y q=>simp at h
   | cons e l ih=>intro q h;cases q with
    | nil=>simp at h
    | cons y q =>
     simp only [List.map_cons,List.cons.injEq,Prod.mk.injEq] at h
     obtain ⟨⟨h1,h2⟩,h3⟩:=h
     have h4:=ih q h3
     by_cases hs:e.1=s
     ·have hs2:y.1=s:=h1 ▸ hs
      simp only [List.map_cons,if_pos hs,if_pos hs2,h4,hv]
     ·have hs2:¬ y.1=s:=h1 ▸ hs
      simp only [List.map_cons,if_neg hs2,h4,h1,h2]
  exact go l q h
 ·simp [h,hv]
theorem seen_update {P:Program} {t kt et:TypeId} (ht:P.underlying t=some (.map kt et)) (hk:P.underlying kt=some .string) {W:World} {m:Nat} {q:SeenQ} (h:Seen W m q) (s n:ByteArray) (k:Int) (d:ByteArray) (A:Option Addr) (mm c:Nat) :
  ∃ o,(Instr.mapUpdate t (.map (some m)) (.string s) (.agg #[.string n,.int .u8 k,.string d,.slice A mm c])).run P W=.ok () (W.putObj m o)∧Seen (W.putObj m o) m (setQ q s (k,d)):=by
 obtain ⟨l,h1,h2⟩:=h
 obtain ⟨o,h3,h4⟩:=mapped_update ht hk h1 s (.agg #[.string n,.int .u8 k,.string d,.slice A mm c])
 exact ⟨o,h3,_,h4,seen_put s rfl h2⟩
theorem seen_delete {P:Program} {t kt et ty:TypeId} (ht:P.underlying t=some (.map kt et)) (hk:P.underlying kt=some .string) {W:World} {m:Nat} {q:SeenQ} (h:Seen W m q) (s:ByteArray) :
  ∃ o,(Builtin.delete_ #[t,kt] ty #[.map (some m),.string s]).run P W=.ok (.tuple #[]) (W.putObj m o)∧Seen (W.putObj m o) m (delQ q s):=by
 obtain ⟨l,h1,h2⟩:=h
 obtain ⟨o,h3,h4⟩:=mapped_delete (ty:=ty) ht hk h1 s
 exact ⟨o,h3,_,h4,seen_del s l q h2⟩
end Go.Proofs.YtdnhjnlhmfajnaaGreatDoor.G
end
section
section
namespace Go.Proofs
open Go.Shelf
def Tryz.sortPaths_ren:Go.Shelf.Ren:=⟨fun | 6=>75 | 15=>114 | 14=>113 | 28=>150 | 29=>151 | 20=>142 | 21=>143 | 22=>144 | 23=>145 | 24=>146 | 25=>147 | 26=>148 | 27=>149 | 46=>164 | 47=>165 | 48=>166 | 49=>167 | 50=>168 | 57=>179 | n=>n,fun | 22=>40 | 24=>37 | 25=>92 | 3=>3 | 39=>160 | 0=>0 | 53=>191 | 55=>193 | 4=>4 | 46=>185 | 45=>184 | 50=>111 | 5=>5 | 9=>9 | 66=>198 | 70=>202 | 76=>212 | 77=>213 | n=>n,fun | n=>n⟩
theorem Tryz.sortPaths:Go.Proofs.SlLaysF.n6 Tryz.prog Tryz.sortPaths_ren:={
 mixed:=by kernel_rfl
 f6:=⟨Tryz.f75.name,by decide,Tryz.func75.trans (congrArg some (by kernel_rfl))⟩
 f14:=⟨Tryz.f113.name,by decide,Tryz.func113.trans (congrArg some (by kernel_rfl))⟩
 f15:=Tryz.func114.trans (congrArg some (by kernel_rfl))
 f20:=⟨Tryz.f142.name,by decide,Tryz.func142.trans (congrArg some (by kernel_rfl))⟩
 f21:=⟨Tryz.f143.name,by decide,Tryz.func143.trans (congrArg some (by kernel_rfl))⟩
 f22:=⟨Tryz.f144.name,by decide,Tryz.func144.trans (congrArg some (by kernel_rfl))⟩
 f23:=⟨Tryz.f145.name,by decide,Tryz.func145.trans (congrArg some (by kernel_rfl))⟩
 f24:=⟨Tryz.f146.name,by decide,Tryz.func146.trans (congrArg some (by kernel_rfl))⟩
 f25:=⟨Tryz.f147.name,by decide,Tryz.func147.trans (congrArg some (by kernel_rfl))⟩
 f26:=⟨Tryz.f148.name,by decide,Tryz.func148.trans (congrArg some (by kernel_rfl))⟩
 f27:=⟨Tryz.f149.name,by decide,Tryz.func149.trans (congrArg some (by kernel_rfl))⟩
 f28:=Tryz.func150.trans (congrArg some (by kernel_rfl))
 f29:=Tryz.func151.trans (congrArg some (by kernel_rfl))
 f46:=⟨Tryz.f164.name,by decide,Tryz.func164.trans (congrArg some (by kernel_rfl))⟩
 f47:=Tryz.func165.trans (congrArg some (by kernel_rfl))
 f48:=Tryz.func166.trans (congrArg some (by kernel_rfl))
 f49:=⟨Tryz.f167.name,by decide,Tryz.func167.trans (congrArg some (by kernel_rfl))⟩
 f50:=⟨Tryz.f168.name,by decide,Tryz.func168.trans (congrArg some (by kernel_rfl))⟩
 f57:=⟨Tryz.f179.name,by decide,Tryz.func179.trans (congrArg some (by kernel_rfl))⟩
 t0:=Tryz.underlying0
 a0:=Tryz.isAgg0
 z0:=Tryz.sizeOf0
 v0:=Tryz.zeroValue0
 t3:=Tryz.underlying3
 a3:=Tryz.isAgg3
 z3:=Tryz.sizeOf3
 v3:=Tryz.zeroValue3
 t4:=Tryz.underlying4
 a4:=Tryz.isAgg4
 z4:=Tryz.sizeOf4
 v4:=Tryz.zeroValue4
 t5:=Tryz.underlying5
 a5:=Tryz.isAgg5
 z5:=Tryz.sizeOf5
 v5:=Tryz.zeroValue5
 t9:=Tryz.underlying9
 a9:=Tryz.isAgg9
 z9:=Tryz.sizeOf9
 v9:=Tryz.zeroValue9
 t22:=Tryz.underlying40
 a22:=Tryz.isAgg40
 z22:=Tryz.sizeOf40
 v22:=Tryz.zeroValue40
 a24:=Tryz.isAgg37
 z24:=Tryz.sizeOf37
 t25:=Tryz.underlying92
 a25:=Tryz.isAgg92
 z25:=Tryz.sizeOf92
 v25:=Tryz.zeroValue92
 t39:=Tryz.underlying160
 a39:=Tryz.isAgg160
 z39:=Tryz.sizeOf160
 v39:=Tryz.zeroValue160
 t45:=Tryz.underlying184
 a45:=Tryz.isAgg184
 z45:=Tryz.sizeOf184
 v45:=Tryz.zeroValue184
 t46:=Tryz.underlying185
 a46:=Tryz.isAgg185
 z46:=Tryz.sizeOf185
 v46:=Tryz.zeroValue185
 t50:=Tryz.underlying111
 a50:=Tryz.isAgg111
 z50:=Tryz.sizeOf111
 v50:=Tryz.zeroValue111
 t53:=Tryz.underlying191
 a53:=Tryz.isAgg191
 z53:=Tryz.sizeOf191
 v53:=Tryz.zeroValue191
 t55:=Tryz.underlying193
 a55:=Tryz.isAgg193
 z55:=Tryz.sizeOf193
 v55:=Tryz.zeroValue193
 t66:=Tryz.underlying198
 a66:=Tryz.isAgg198
 z66:=Tryz.sizeOf198
 v66:=Tryz.zeroValue198
 t70:=Tryz.underlying202
 a70:=Tryz.isAgg202
 z70:=Tryz.sizeOf202
 v70:=Tryz.zeroValue202
 t76:=Tryz.underlying212
 a76:=Tryz.isAgg212
 z76:=Tryz.sizeOf212
 v76:=Tryz.zeroValue212
 t77:=Tryz.underlying213
 a77:=Tryz.isAgg213
 z77:=Tryz.sizeOf213
 v77:=Tryz.zeroValue213}
end Go.Proofs
end
section
namespace Go.Proofs.YtdnhjnlhmfajnaaGreatDoor.G
open Go.RowKit Go.Lib Go.Shelf Go.Sort Go.Proofs.YtdnhjnlhmfajnaaGreatDoorW.PrintWords Go.Proofs.YtdnhjnlhmfajnaaGreatDoorW.PrintLast
set_option linter.unusedVariables false
structure PF where
 A:Option Addr
 c:Nat
 l:List ByteArray
def ValidPF (W:World) (g:Nat) (x:PF):Prop:=Kd.F Kd.string W (fun k=>k≠g∧∃ q cells,W.heap[k]? = some (.cells cells q (0,0))) x.A x.l.length x.l∧x.l.length≤x.c∧x.l.length≤1099511627776
abbrev VPF (W:World) (g:Nat):={x:PF // ValidPF W g x}
instance (W:World) (g:Nat):Inhabited (VPF W g):=⟨⟨⟨none,0,[]⟩,Kd.F_nil _ _ _,by simp,by simp⟩⟩
def encPF (W:World) (g:Nat) (x:VPF W g):Value:=.slice x.1.A x.1.l.length x.1.c
def pathsPF {W:World} {g:Nat} (d:List (VPF W g)):List (List ByteArray):=d.map (·.1.l)
theorem pathsPF_length {W:World} {g:Nat} (d:List (VPF W g)):(pathsPF d).length=d.length:=by simp [pathsPF]
theorem rowsPF {W:World} {base:Nat} {ok:Nat→Prop} {g cap:Nat} {ll:List (List ByteArray)} (h:Kd.R PathK 37 W base ok (.slice (some ⟨g,0,none⟩) ll.length cap) ll) (hl:∀ x∈ll,x.length≤1099511627776) :
  ∃ d:List (VPF W g),pathsPF d=ll∧∀ j (hj:j<d.length),W.cell? ⟨g,j,none⟩=some (encPF W g d[j]):=by
 classical
 obtain ⟨_,inner,ho,hr⟩:=h
 have each:∀ j:Fin ll.length,∃ x:VPF W g,x.1.l=ll[j]∧W.cell? ⟨g,j,none⟩=some (encPF W g x):=by
  intro j
  obtain ⟨v,hv,hR⟩:=hr.2 j.1 ll[j.1] (List.getElem?_eq_getElem j.2)
  have hc3:inner[j.1]? = some v:=by
   have hv':(inner.drop (j.1 * 1)).take 1=[v]:=hv
   have h5:((inner.drop (j.1 * 1)).take 1)[0]? = some v:=by rw [hv'];rfl
   rw [List.getElem?_take,if_pos (by omega),List.getElem?_drop] at h5
   simpa using h5
  obtain ⟨A,n,rfl,hn,_⟩:=Kd.R_reads hR
  refine ⟨⟨⟨A,n,ll[j.1]⟩,Kd.F_mono (Kd.R_F (Kd.R_bound hR)) fun k hk=>⟨fun e=>hk.1.2 (by rw [e];rfl),by obtain ⟨_,_,_,q,_,cells,hc⟩:=hk;exact ⟨q,cells,hc⟩⟩,hn,hl _ (List.getElem_mem j.2)⟩,rfl,?_⟩
  have:=ho.cells (g:=g) rfl j.1 _ hc3
  rw [add_plain] at this
  exact this
 refine ⟨List.ofFn fun j=>Classical.choose (each j),?_,fun j hj => ?_⟩
 ·apply List.ext_getElem
  ·simp [pathsPF]
  ·intro k h1 h2
   simp only [pathsPF,List.getElem_map,List.getElem_ofFn]
   exact (Classical.choose_spec (each ⟨k,h2⟩)).1
 ·have hj':j<ll.length:=by simpa using hj
  rw [List.getElem_ofFn]
  exact (Classical.choose_spec (each ⟨j,hj'⟩)).2
def cmpPF {W:World} {g:Nat} (x y:VPF W g):Int:=cmpP x.1.l y.1.l
theorem cmpPF_swo (W:World) (g:Nat):SWO (ltOf (cmpPF (W:=W) (g:=g))):=by
 refine ⟨fun x => ?_,fun x y z h1 h2 => ?_,fun x y z h1 h2 => ?_⟩
 ·unfold ltOf cmpPF
  rw [cmp_self]
  rfl
 ·unfold ltOf cmpPF at *
  have h1:=of_decide_eq_true h1
  have h2:=of_decide_eq_true h2
  exact decide_eq_true (cmp_lt_trans h1 (by omega))
 ·unfold ltOf cmpPF at *
  have h1:=of_decide_eq_false h1
  have h2:=of_decide_eq_false h2
  have a1:=cmp_anti x.1.l y.1.l
  have a2:=cmp_anti y.1.l z.1.l
  have a3:=cmp_anti x.1.l z.1.l
  have:=cmp_trans (a:=z.1.l) (b:=y.1.l) (c:=x.1.l) (by omega) (by omega)
  exact decide_eq_false (by omega)
theorem sort_only {α:Type} [Inhabited α] {enc:α→Value} {W:World} {blk off m:Nat} {dk:Array α} {os:Array Obj}:Only (fun k=>k=blk) W (sortWorld enc W blk off m dk os):=by
 refine ⟨rfl,rfl,rfl,?_,fun k hk hn => ?_⟩
 ·have:(sortWorld enc W blk off m dk os).heap.size=W.heap.size+os.size:=by simp [sortWorld,grow,putRow,mapBlock,Sort.ahead]
  omega
 ·have h1:(sortWorld enc W blk off m dk os).heap[k]? = (putRow enc (Sort.ahead W m) blk off dk).heap[k]? := heap_grow_old _ _ (by simp [putRow,mapBlock,Sort.ahead];omega)
  rw [h1]
  show (W.heap.modify blk _)[k]? = _
  rw [Array.getElem?_modify,if_neg (fun e=>hn e.symm)]
theorem cmpPF_reads {W:World} (g off size:Nat):CmpReads Tryz.prog 51 #[] (encPF W g) cmpPF g off size W:=by
 intro m os dk hs x y
 have hB:=sort_only (enc:=encPF W g) (W:=W) (blk:=g) (off:=off) (m:=m) (dk:=dk) (os:=os)
 exact compare_calls x.1.A x.1.c x.1.l y.1.A y.1.c y.1.l _ (x.2.1 _ fun k hk hl=>hB.block k hl hk.1) x.2.2.1 (y.2.1 _ fun k hk hl=>hB.block k hl hk.1) y.2.2.1 (by have:=x.2.2.2;omega)
theorem getBangPF {α:Type} [Inhabited α] (d:List α) (j:Nat) (h:j<d.length):d.toArray[j]! = d[j]:=by
 rw [getElem!_pos d.toArray j (by simpa using h)]
 simp
theorem permPF {α:Type} [Inhabited α] {d d':Array α} (h:PermIn 0 d.size d d'):d'.toList.Perm d.toList:=by
 obtain ⟨h1,_,h3⟩:=h
 have e1:d'.extract 0 d.size=d':=by rw [← h1];simp
 have e2:d.extract 0 d.size=d:=by simp
 rw [e1,e2] at h3
 exact h3
theorem sortedPF {W:World} {g:Nat} {d':Array (VPF W g)} {n:Nat} (hn:n=d'.size) (h:SortedIn (ltOf (cmpPF (W:=W) (g:=g))) 0 n d'):sortedP (pathsPF d'.toList):=by
 unfold sortedP pathsPF
 rw [List.pairwise_map,List.pairwise_iff_getElem]
 intro i j hi hj hij
 have hj':j<d'.size:=by simpa using hj
 have h1:=h i j (by omega) hij (by omega)
 unfold ltOf cmpPF at h1
 have h2:=of_decide_eq_false h1
 rw [getElem!_pos d' j (by omega),getElem!_pos d' i (by omega)] at h2
 have h3:=cmp_anti (d'[i]'(by omega)).1.l (d'[j]'(by omega)).1.l
 simp only [Array.getElem_toList]
 omega
theorem sort_paths {W:World} {base:Nat} {ok:Nat→Prop} (A:Option Addr) (cap:Nat) (ll:List (List ByteArray)) (hln:ll.length≤1099511627776) (h:Kd.R PathK 37 W base ok (.slice A ll.length cap) ll) (hl:∀ x∈ll,x.length≤1099511627776) :
  Calls Tryz.prog 75 #[.slice A ll.length cap,.func (.func 51) #[] #[]] W fun e w'=>e=.returned (.tuple #[]) ∧
   ∃ s:List (List ByteArray),s.Perm ll∧sortedP s∧(∀ W':World,(∀ k:Nat,(∀ x,w'.heap[k]? ≠ some (Obj.deferred x))→W'.heap[k]? = w'.heap[k]?)→Kd.C PathK W' A s.length s)∧Only (fun k=>some k=(Value.slice A ll.length cap).ownBlock) W w':=by
 rcases Nat.eq_zero_or_pos ll.length with h0 | h0
 ·have hnil:=List.length_eq_zero_iff.1 h0
  subst hnil
  refine (AnyF.slices_SortFunc_none (P:=Tryz.prog) (ρ:=Tryz.sortPaths_ren) {Tryz.sortPaths with} A cap _ W).mono ?_
  rintro e w' ⟨rfl,hw⟩
  rw [hw]
  exact ⟨rfl,[],List.Perm.refl _,List.Pairwise.nil,fun W' _=>⟨rfl,by simp,fun hn=>absurd hn (by simp)⟩,Only.refl _ _⟩
 obtain ⟨g,rfl⟩:∃ g,A=some ⟨g,0,none⟩:=by
  obtain ⟨inner,how⟩:=Kd.R_own h
  rcases how.2 with ⟨h1,_⟩ | ⟨g,c2,cur,h1,_⟩
  ·injection h1 with _ h2 _;omega
  ·injection h1 with h2 _ _;exact ⟨g,h2⟩
 have hlt:=Kd.R_lt h g (by simp [Value.ownBlock])
 have hfr:∀ j,W.frozen? ⟨g,j,none⟩=false:=fun j=>by
  obtain ⟨_,inner,ho,_⟩:=h
  obtain ⟨cells,hc⟩:=own_typed ho g rfl
  exact blk_frozen hc j
 obtain ⟨d,hd,hcell⟩:=rowsPF h hl
 have hdl:d.length=ll.length:=by rw [← hd,pathsPF_length]
 have hH:Go.Sort.Holds (encPF W g) W g 0 d.toArray:=by
  intro j hj
  have hj':j<d.length:=by simpa using hj
  rw [Nat.zero_add,getBangPF d j hj']
  exact ⟨hcell j hj',hfr j⟩
 have H:=Any.slices_SortFunc (P:=Tryz.prog) Tryz.sortPaths (encPF W g) (fun _=>rfl) cmpPF (cmpPF_swo W g) 51 #[] g 0 cap d.toArray W (enters_of Tryz.func51 (by kernel_rfl) rfl)
  (cmpPF_reads g 0 d.toArray.size).lays hH hlt (by simp;omega)
 rw [show d.toArray.size=ll.length by simp [hdl]] at H
 refine H.mono ?_
 rintro e w' ⟨rfl,d',n,os,hp,hs,rfl⟩
 have hsz:d'.size=d.length:=by have:=hp.1;simpa [hdl] using this
 have hpl:(pathsPF d'.toList).Perm ll:=by
  have:=permPF (d:=d.toArray) (d':=d') (by simpa [hdl] using hp)
  rw [← hd]
  exact (by simpa using this:d'.toList.Perm d).map _
 have hO:=sort_only (enc:=encPF W g) (W:=W) (blk:=g) (off:=0) (m:=n) (dk:=d') (os:=os)
 refine ⟨rfl,pathsPF d'.toList,hpl,sortedPF (by omega) hs,?_,hO.mono fun k _ e=>by rw [e];rfl⟩
 intro W' hW'
 refine ⟨rfl,by rw [pathsPF_length];simp;omega,fun _=>⟨_,rfl,fun j p hj => ?_⟩⟩
 have hj2:j<(pathsPF d'.toList).length:=(List.getElem?_eq_some_iff.1 hj).1
 have hj':j<d'.size:=by rw [pathsPF_length] at hj2;simpa using hj2
 have hpe:p=(d'[j]'hj').1.l:=by
  rw [List.getElem?_eq_getElem hj2] at hj
  injection hj with hj
  rw [← hj]
  simp [pathsPF]
 have hc:=SW.c1 (W:=sortWorld (encPF W g) W g 0 n d' os) ⟨n,os,rfl⟩ ⟨(fun _=>rfl),hH,hlt⟩ (by simpa using hsz) j hj'
 rw [getElem!_pos d' j hj'] at hc
 subst hpe
 generalize d'[j]'hj'=z at *
 obtain ⟨⟨xA,xc,p⟩,hv1,hv2,hv3⟩:=z
 refine ⟨[.slice xA p.length xc],rfl,⟨xA,xc,rfl,hv2,hv1 _ fun k hk hl=>(hW' k fun x hx=>by obtain ⟨q,cells,hc2⟩:=hk.2;rw [hO.block k hl hk.1,hc2] at hx;cases hx).trans (hO.block k hl hk.1)⟩,fun i u hu => ?_⟩
 have hi:i<1:=(List.getElem?_eq_some_iff.1 hu).1
 obtain rfl:i=0:=by omega
 obtain rfl:Value.slice xA p.length xc=u:=by simpa using hu
 rw [show j * PathK.sz+0=j by show j * 1+0=j;omega,add_plain]
 have hg:W'.heap[g]? = (sortWorld (encPF W g) W g 0 n d' os).heap[g]? := hW' g fun x hx=>by
  simp [World.cell?,hx] at hc
 have hcc:W'.cell? ⟨g,j,none⟩=(sortWorld (encPF W g) W g 0 n d' os).cell? ⟨g,j,none⟩:=by simp [World.cell?,hg]
 rw [hcc]
 simpa [encPF] using hc
end Go.Proofs.YtdnhjnlhmfajnaaGreatDoor.G
end
section
namespace Go.Proofs.YtdnhjnlhmfajnaaGreatDoor.G
open Go.RowKit Go.Shelf Go.Lib Go.Proofs.YtdnhjnlhmfajnaaGreatDoorW.PrintWords Go.Proofs.YtdnhjnlhmfajnaaGreatDoorW.PrintLast
attribute [local go_sem] Oper.semAt_some
set_option linter.unusedVariables false
set_option linter.unusedSimpArgs false
theorem cell_heapC {W W':World} {p:Addr} (h:W'.heap[p.block]? = W.heap[p.block]?):W'.cell? p=W.cell? p:=by simp [World.cell?,h]
def bmE (n m:Nat):Array Bool:=((List.range n).map (fun j=>m.testBit j)).toArray
def seenOf (l:List (List ByteArray×File)):SeenQ:=l.foldl (fun q y=>setQ q (shownS y.1) (y.2.kind,y.2.data)) []
def chgStep (st:SeenQ×List (List ByteArray)) (y:List ByteArray×File):SeenQ×List (List ByteArray) :=
 (delQ st.1 (shownS y.1),if lookQ st.1 (shownS y.1)=some (y.2.kind,y.2.data) then st.2 else st.2++[y.1])
def chgB (q:SeenQ) (l:List (List ByteArray×File)):SeenQ×List (List ByteArray):=l.foldl chgStep (q,[])
def chgR (q:SeenQ) (o:List (List ByteArray)) (l:List (List ByteArray×File)):List (List ByteArray):=l.foldl (fun o y=>if (lookQ q (shownS y.1)).isSome then o++[y.1] else o) o
def chgL (a b:File):List (List ByteArray):=chgR (chgB (seenOf (preF [] a)) (preF [] b)).1 (chgB (seenOf (preF [] a)) (preF [] b)).2 (preF [] a)
theorem seenOf_snoc (l:List (List ByteArray×File)) (y:List ByteArray×File):seenOf (l++[y])=setQ (seenOf l) (shownS y.1) (y.2.kind,y.2.data):=by simp [seenOf]
theorem chgB_snoc (q:SeenQ) (l:List (List ByteArray×File)) (y:List ByteArray×File):chgB q (l++[y])=chgStep (chgB q l) y:=by simp [chgB]
theorem chgR_snoc (q:SeenQ) (o:List (List ByteArray)) (l:List (List ByteArray×File)) (y:List ByteArray×File):chgR q o (l++[y])=if (lookQ q (shownS y.1)).isSome then chgR q o l++[y.1] else chgR q o l:=by simp [chgR]
theorem zero_fileC (W:World):(zeroValue 25).run Tryz.prog W=.ok (.agg zC) W:=by kernel_rfl
def IC1 (V:World) (m:Nat) (pre:List (List ByteArray×File)) (F G:Nat→Prop) (W:World):Prop :=
 Only (fun k=>k=m) V W∧(∀ k,F k↔k=m)∧Seen W m (seenOf pre)
theorem IC1_own (V:World) (m:Nat):OwnF V.heap.size (IC1 V m):=by
 rintro s F G X Y ⟨ho,hF,hS⟩ h
 exact ⟨ho.trans h (fun _ _ h=>h) (fun k hk q=>by omega),hF,hS.mv (h.block m hS.lt fun q=>q.2.1 ((hF m).2 rfl))⟩
def IC2 (V:World) (m ob:Nat) (q0:SeenQ) (pre:List (List ByteArray×File)) (F G:Nat→Prop) (W:World):Prop :=
 Only (fun k=>k=m∨k=ob) V W∧F m∧F ob∧Seen W m (chgB q0 pre).1∧∃ v,Boxed W ob 40 v∧(∀ k,v.ownBlock=some k→F k)∧(∀ k,F k→k=m∨k=ob∨V.heap.size≤k)∧Kd.R PathK 37 W V.heap.size (fun k=>F k∨G k) v (chgB q0 pre).2
theorem RP_only {base:Nat} {ok F:Nat→Prop} {w w1:World} {v:Value} {xs:List (List ByteArray)} (h:Kd.R PathK 37 w base ok v xs) (ho:Only F w w1) (hn:∀ k,ok k→base≤k→¬ F k):Kd.R PathK 37 w1 base ok v xs :=
 Kd.R_mono (Kd.R_step (Kd.R_bound h) fun k hk hlt=>ho.block k hlt (hn k hk.1 hk.2.1)) fun k hk=>hk.1
theorem IC2_own (V:World) (m ob:Nat) (q0:SeenQ):OwnF V.heap.size (IC2 V m ob q0):=by
 rintro s F G X Y ⟨ho,hm,hob,hS,v,hv,hF,hFb,hR⟩ h
 exact ⟨ho.trans h (fun _ _ h=>h) (fun k hk q=>by omega),hm,hob,hS.mv (h.block m hS.lt fun q=>q.2.1 hm),v,Boxed_only hv h fun q=>q.2.1 hob,hF,hFb,RP_only hR h fun k hk _ q=>hk.elim q.2.1 q.2.2⟩
def IC3 (V:World) (ob B0:Nat) (v0:Value) (q0:SeenQ) (o0:List (List ByteArray)) (pre:List (List ByteArray×File)) (F G:Nat→Prop) (W:World):Prop :=
 Only (fun k=>k=ob∨v0.ownBlock=some k) V W∧F ob∧(∀ k,v0.ownBlock=some k→F k)∧∃ v,Boxed W ob 40 v∧(∀ k,v.ownBlock=some k→F k)∧(∀ k,F k→k=ob∨v0.ownBlock=some k∨V.heap.size≤k)∧Kd.R PathK 37 W B0 (fun k=>F k∨G k∨(B0≤k∧k<V.heap.size)) v (chgR q0 o0 pre)
theorem IC3_own (V:World) (ob B0:Nat) (v0:Value) (q0:SeenQ) (o0:List (List ByteArray)):OwnF V.heap.size (IC3 V ob B0 v0 q0 o0):=by
 rintro s F G X Y ⟨ho,hob,hv0,v,hv,hF,hFb,hR⟩ h
 exact ⟨ho.trans h (fun _ _ h=>h) (fun k hk q=>by omega),hob,hv0,v,Boxed_only hv h fun q=>q.2.1 hob,hF,hFb,RP_only hR h fun k hk _ q=>by
  rcases hk with hk | hk | hk
  ·exact q.2.1 hk
  ·exact q.2.2 hk
  ·omega⟩
theorem mapped_at {P:Program} {t kt et:TypeId} (ht:P.underlying t=some (.map kt et)) (hk:P.underlying kt=some .string) {W:World} {m:Nat} {l:List (ByteArray×Value)} (h:Mapped W m l) (s:ByteArray) {z v:Value} {b:Bool} (hz:(zeroValue et).run P W=.ok z W) (hg:getK l s z=v) (hb:hasK l s=b) :
  (Instr.lookup t (.map (some m)) (.string s) true).run P W=.ok (.tuple #[v,.bool b]) W:=by
 rw [← hg,← hb]
 exact mapped_lookup ht hk h s hz
theorem seen_at {W:World} {m:Nat} {q:SeenQ} (h:Seen W m q) (s:ByteArray):∃ l n k d A mm c b,Mapped W m l∧(∀ W',Mapped W' m l→Seen W' m q)∧getK l s (.agg zC)=.agg #[.string n,.int .u8 k,.string d,.slice A mm c]∧hasK l s=b∧b=(lookQ q s).isSome∧∀ x,lookQ q s=some x→x=(k,d):=by
 obtain ⟨l,h1,h2⟩:=h
 have hf:=seen_find s l q h2
 have hh:=seen_has h2 s
 unfold getK
 unfold lookQ at hh ⊢
 cases hq:q.find? (fun y=>decide (y.1=s)) with
 | none =>
  rw [hq] at hf hh
  rw [Option.map_none,Option.map_eq_none_iff] at hf
  exact ⟨l,_,_,_,_,_,_,_,h1,fun W' hW=>⟨l,hW,h2⟩,by rw [hf];rfl,hh,rfl,fun x hx=>by cases hx⟩
 | some y =>
  rw [hq] at hf hh
  cases he:l.find? (fun e=>decide (e.1=s)) with
  | none=>rw [he] at hf;cases hf
  | some e =>
   rw [he] at hf
   simp only [Option.map_some,Option.some.injEq,Prod.mk.injEq] at hf
   obtain ⟨n,A,mm,c,hv⟩:=kdV_some hf.2
   refine ⟨l,n,y.2.1,y.2.2,A,mm,c,_,h1,fun W' hW=>⟨l,hW,h2⟩,?_,hh,rfl,fun x hx => ?_⟩
   ·rw [he]
    simp only [Option.map_some,Option.getD_some,hv]
   ·simp only [Option.map_some,Option.some.injEq] at hx
    rw [← hx]
theorem shown_below (A:Option Addr) (c:Nat) (l:List ByteArray) (w:World) (hr:Kd.C Kd.string w A l.length l) (hc:l.length≤c) (hl:l.length≤1099511627776) (hs:(shownS l).size≤70368744177664) :
  Calls Tryz.prog 41 #[.slice A l.length c] w fun e w'=>e=.returned (.string (shownS l))∧Below w.heap.size w w' :=
 (shown_calls A c l w hr hc hl hs).mono fun _ _ ⟨h1,h2⟩=>⟨h1,h2 ▸ Below.refl _ _⟩
theorem store4_only (W:World) (g:Nat) (v0 v1 v2 v3:Value):Only (fun k=>k=g) W ((((W.setCell ⟨g,0,none⟩ v0).setCell ⟨g,1,none⟩ v1).setCell ⟨g,2,none⟩ v2).setCell ⟨g,3,none⟩ v3):=by
 have st:∀ {X:World} (i:Nat) (u:Value),Only (fun k=>k=g) W X→Only (fun k=>k=g) W (X.setCell ⟨g,i,none⟩ u):=fun i u h=>h.trans (Only.setCell _ _ _) (fun _ _ h=>h) (fun k _ e=>e)
 exact st 3 v3 (st 2 v2 (st 1 v1 (st 0 v0 (Only.refl _ _))))
theorem chgB_len (q:SeenQ):∀ (l:List (List ByteArray×File)),(chgB q l).2.length≤l.length:=by
 have go:∀ (l:List (List ByteArray×File)) (st:SeenQ×List (List ByteArray)),(l.foldl chgStep st).2.length≤st.2.length+l.length:=by
  intro l
  induction l with
  | nil=>intro st;simp
  | cons y l ih =>
   intro st
   have h:=ih (chgStep st y)
   have h2:(chgStep st y).2.length≤st.2.length+1:=by
    simp only [chgStep]
    split
    ·omega
    ·simp
   simp only [List.foldl_cons,List.length_cons]
   omega
 intro l
 have:=go l (q,[])
 simpa [chgB] using this
theorem chgR_len (q:SeenQ) (o:List (List ByteArray)):∀ (l:List (List ByteArray×File)),(chgR q o l).length≤o.length+l.length:=by
 intro l
 unfold chgR
 induction l generalizing o with
 | nil=>simp
 | cons y l ih =>
  simp only [List.foldl_cons,List.length_cons]
  split
  ·have h:=ih (o++[y.1]);simp only [List.length_append,List.length_cons,List.length_nil] at h;omega
  ·have h:=ih o;omega
theorem chgR_mem (q:SeenQ) (o:List (List ByteArray)):∀ (l:List (List ByteArray×File)) (p:List ByteArray),p∈chgR q o l→p∈o∨∃ y∈l,y.1=p∧(lookQ q (shownS y.1)).isSome=true:=by
 intro l
 unfold chgR
 induction l generalizing o with
 | nil=>intro p h;exact .inl h
 | cons y l ih =>
  intro p h
  simp only [List.foldl_cons] at h
  split at h
  ·rename_i hs
   rcases ih _ p h with h | ⟨z,hz,h⟩
   ·rcases List.mem_append.1 h with h | h
    ·exact .inl h
    ·exact .inr ⟨y,List.mem_cons_self,(List.mem_singleton.1 h).symm,hs⟩
   ·exact .inr ⟨z,List.mem_cons_of_mem _ hz,h⟩
  ·rcases ih _ p h with h | ⟨z,hz,h⟩
   ·exact .inl h
   ·exact .inr ⟨z,List.mem_cons_of_mem _ hz,h⟩
theorem chgB_mem (q:SeenQ):∀ (l:List (List ByteArray×File)) (p:List ByteArray),p∈(chgB q l).2→∃ y∈l,y.1=p:=by
 have go:∀ (l:List (List ByteArray×File)) (st:SeenQ×List (List ByteArray)) (p:List ByteArray),p∈(l.foldl chgStep st).2→p∈st.2∨∃ y∈l,y.1=p:=by
  intro l
  induction l with
  | nil=>intro st p h;exact .inl h
  | cons y l ih =>
   intro st p h
   rcases ih (chgStep st y) p h with h | ⟨z,hz,h⟩
   ·simp only [chgStep] at h
    split at h
    ·exact .inl h
    ·rcases List.mem_append.1 h with h | h
     ·exact .inl h
     ·exact .inr ⟨y,List.mem_cons_self,(List.mem_singleton.1 h).symm⟩
   ·exact .inr ⟨z,List.mem_cons_of_mem _ hz,h⟩
 intro l p h
 rcases go l (q,[]) p h with h | h
 ·cases h
 ·exact h
theorem append_pathC {w0 W:World} (ty:TypeId) (base:Nat) (ok okp:Nat→Prop) (v:Value) (l:List (List ByteArray)) (vq:Value) (q:List ByteArray) (hq:Kd.R Kd.string 9 W base okp vq q) (hokp:∀ k,okp k→ok k∧some k≠v.ownBlock)
  (HO:Kd.R PathK 37 W base ok v l) (HB:Below base w0 W) (hbase:base≤W.heap.size) (hfresh:∀ k,W.heap.size≤k→ok k) (hl:(l.length+1) * 24≤140737488355328) :
  ∃ v1 w1,(Builtin.append_ #[40,40] ty #[v,.slice (some ⟨W.heap.size,0,none⟩) 1 1]).run Tryz.prog (W.alloc (.cells #[vq] 37))=.ok v1 w1 ∧
   Kd.R PathK 37 w1 base ok v1 (l++[q])∧Below base w0 w1∧W.grownBy w1 v.ownBlock∧(v1.ownBlock=v.ownBlock∨∃ b,v1.ownBlock=some b∧W.heap.size≤b) :=
 append_run (P:=Tryz.prog) (W:=W.alloc (.cells #[vq] 37)) (t:=40) (ty:=ty) (v:=v) (vx:=.slice (some ⟨W.heap.size,0,none⟩) 1 1)
  (R:=fun v1 w1=>Kd.R PathK 37 w1 base ok v1 (l++[q])∧Below base w0 w1∧W.grownBy w1 v.ownBlock∧(v1.ownBlock=v.ownBlock∨∃ b,v1.ownBlock=some b∧W.heap.size≤b))
  (o := { dst := some 0, op := .call { callee := .builtin .append, args := #[.const v, .const (.slice (some ⟨W.heap.size, 0, none⟩) 1 1)], argTypes := #[40, 40] }, type := ty, pos := "", after := #[], guard := none })
  ⟨#[undef],[]⟩ rfl rfl rfl rfl rfl
  (Kd.R_append PathK (w0:=w0) base rfl (.const v) (.const (.slice (some ⟨W.heap.size,0,none⟩) 1 1)) 40 37 (.slice none 0 0) 24 rfl Tryz.underlying40 info_path rfl (by decide) (by decide) v l q [vq] ok okp rfl rfl ⟨vq,rfl,hq⟩ hokp hfresh HO HB hbase hl
   fun v1 w1 a1 a2 a3 a4=>⟨rfl,v1,rfl,a1,a2,a3,a4⟩)
theorem unfrC {W:World} {g:Nat} {cs:Array Value} {t:TypeId} (h:W.heap[g]? = some (.cells cs t (0,0))) (j:Nat):W.frozen? ⟨g,j,none⟩=false:=by simp [World.frozen?,h]
theorem set_blockC {W:World} {g:Nat} {cs:Array Value} {t:TypeId} (h:W.heap[g]? = some (.cells cs t (0,0))) (i:Nat) (u:Value):(W.setCell ⟨g,i,none⟩ u).heap[g]? = some (.cells (cs.setIfInBounds i u) t (0,0)):=by
 exact blk_set h i u
set_option maxHeartbeats 8000000 in
set_option maxRecDepth 100000 in
theorem changed_calls (a b:File) (A B:Option Addr) (c d:Nat) (w:World) (hba:a.bulk≤100000000) (hbb:b.bulk≤100000000) (ha:FileK.C w A a.files.length a.files) (hca:a.files.length≤c) (hb:FileK.C w B b.files.length b.files) (hcb:b.files.length≤d) :
  Calls Tryz.prog 33 #[fileV a A c,fileV b B d] w fun e w'=>∃ A9 c9 s,e=.returned (.tuple #[.slice A9 s.length c9,.int .i64 (if (rightT a && rightT b)=true then 0 else 30)])∧s.length≤c9∧((rightT a && rightT b)=true→s.Perm (chgL a b)∧sortedP s)∧((rightT a && rightT b)=false→s=[])∧Kd.C PathK w' A9 s.length s∧Below w.heap.size w w':=by
 have h2:=two_boxes w (fc a A c) (fc b B d) 25 25
 have hb0:=(below_alloc (Below.refl w.heap.size w) (.cells (fc a A c) 25)).alloc (by simp) (.cells (fc b B d) 25)
 have hz0:((w.alloc (.cells (fc a A c) 25)).alloc (.cells (fc b B d) 25)).heap.size=w.heap.size+2:=by simp
 have HRA:=Lib.hid (right_calls a A c _ (by omega) (Kd.C_below ha hb0) hca)
 have HRB:=Lib.hid (fun W h=>right_calls b B d W (by omega) (Kd.C_below hb h) hcb)
 have HA:=Lib.hid ha
 have HB:=Lib.hid hb
 have HPA:=Lib.hid (preF_bound a [])
 have HPB:=Lib.hid (preF_bound b [])
 have HCA:=Lib.hid (preF_count a [])
 have HCB:=Lib.hid (preF_count b [])
 have HBA:=Lib.hid (bulk_eq a)
 have HBB:=Lib.hid (bulk_eq b)
 have HX0:=Lib.hid h2
 have HB0:=Lib.hid hb0
 obtain ⟨y0,y1,y2,y3⟩:=c4A HX0.out.1
 have hmm := @run_makeMap Tryz.prog
 clear ha hb h2 hb0
 refine (callsIn_wide (n:=5)).1 ?_
 refine callsIn_of_wp_marks Tryz.func33 rfl trivial (wpIn_wide.2 ?_) rfl
 simp only [Tryz.ntmps33,List.size_toArray,List.length_cons,List.length_nil,Nat.reduceAdd,Nat.reduceSub,Array.replicate_succ,Array.replicate_zero,List.push_toArray,List.append_toArray,List.nil_append,List.cons_append]
 unfold fileV
 go_wp2_with fail
 clear y0 y1 y2 y3
 generalize ((w.alloc (.cells (fc a A c) 25)).alloc (.cells (fc b B d) 25))=W0 at *
 refine (show Calls Tryz.prog 36 #[.agg (fc a A c)] _ _ from HRA.out).mono ?_
 rintro e w1 ⟨rfl,hb1⟩
 have hb1w:=HB0.out.trans (hb1.mono (by omega))
 have hs1:=hb1.size
 have HXA:=Lib.hid ((hb1.block w.heap.size (by omega)).trans HX0.out.1)
 have HXB:=Lib.hid ((hb1.block (w.heap.size+1) (by omega)).trans HX0.out.2)
 clear HX0 HRA
 cases hra:rightT a
 ·go_wp2_with fail
  all_goals exact ⟨_,results_tmp2 rfl _ _ _,none,0,[],rfl,Nat.le_refl _,rfl,Kd.C_nil _ _,hb1w⟩
 obtain ⟨y0,y1,y2,y3⟩:=c4A HXB.out
 go_wp2_with fail
 clear y0 y1 y2 y3
 refine (show Calls Tryz.prog 36 #[.agg (fc b B d)] _ _ from HRB.out w1 hb1w).mono ?_
 rintro e w2 ⟨rfl,hb2⟩
 have hb2w:=hb1w.trans (hb2.mono (by omega))
 have hs2:=hb2.size
 have HXA2:=Lib.hid ((hb2.block w.heap.size (by omega)).trans HXA.out)
 have HXB2:=Lib.hid ((hb2.block (w.heap.size+1) (by omega)).trans HXB.out)
 clear HRB HXA HXB
 cases hrb:rightT b
 ·go_wp2_with fail
  all_goals exact ⟨_,results_tmp2 rfl _ _ _,none,0,[],rfl,Nat.le_refl _,rfl,Kd.C_nil _ _,hb2w⟩
 obtain ⟨Wm,hWm⟩:∃ W,w2.alloc (.map #[] 0)=W:=⟨_,rfl⟩
 have hbm:Below w2.heap.size w2 Wm:=by rw [← hWm];exact below_alloc (Below.refl _ _) _
 have hSm:Seen Wm w2.heap.size []:=by rw [← hWm];exact Seen.made _
 have hsm:w2.heap.size<Wm.heap.size:=by rw [← hWm];simp
 have hbs:=below_alloc (Below.refl Wm.heap.size Wm) (.cells #[.map (some w2.heap.size)] 115)
 have hns:=Boxed.new Wm 115 (.map (some w2.heap.size))
 have hzs:Wm.heap.size<(Wm.alloc (.cells #[.map (some w2.heap.size)] 115)).heap.size:=by simp
 have hnA:=(hbs.block w.heap.size (by omega)).trans ((hbm.block w.heap.size (by omega)).trans HXA2.out)
 have hnB:=(hbs.block (w.heap.size+1) (by omega)).trans ((hbm.block (w.heap.size+1) (by omega)).trans HXB2.out)
 have hSs:=hSm.mv (hbs.block w2.heap.size (by omega))
 have hb3w:=(hb2w.trans (hbm.mono (by omega))).trans (hbs.mono (by omega))
 obtain ⟨y0,y1,y2,y3⟩:=c4A hnA
 go_wp2_with fail
 clear y0 y1 y2 y3
 generalize Wm.alloc (.cells #[.map (some w2.heap.size)] 115)=W3 at *
 refine (each_calls a A c W3).mono ?_
 rintro e V1 ⟨rfl,hw1⟩
 have hbe1:=below_alloc (Below.refl W3.heap.size W3) (.cells (fc a A c) 25)
 have hne1:=blk_new W3 (.cells (fc a A c) 25)
 have hze1:W3.heap.size<(W3.alloc (.cells (fc a A c) 25)).heap.size:=by simp
 rw [← hw1] at hbe1 hne1 hze1
 clear hw1
 have hb4w:=hb3w.trans (hbe1.mono hb3w.size)
 have hns4:=Boxed_below hns hbe1 (by omega)
 have hSs4:=hSs.mv (hbe1.block _ (by omega))
 have hnA4:=(hbe1.block w.heap.size (by omega)).trans hnA
 have hnB4:=(hbe1.block (w.heap.size+1) (by omega)).trans hnB
 have HGI1:=Lib.hid (each_gives w V1 a A c W3.heap.size (by omega) HA.out hca hb4w (by omega) hne1)
 have HNA:=Lib.hid hnA4
 have HNB:=Lib.hid hnB4
 clear hns hSs hnA hnB hnA4 hnB4 hbe1 hne1 hbs hSm hbm HXA2 HXB2
 go_wp2_with fail
 refine (wpIn_wide (n:=5)).1 ?_
 apply wpIn_rangeR (n:=5) (gf:=77) (lb:=#[.pointer (some ⟨W3.heap.size,0,none⟩)]) (Enc:=EncF w V1.heap.size) (Hd:=HdF) (Prot:=fun k=>k<w.heap.size∨k=W3.heap.size) (full:=preF [] a)
  (I:=IC1 V1 w2.heap.size) (Ix:=fun _ _ _ _=>False) (F0:=fun k=>k=w2.heap.size) (G0:=fun _=>False)
 case hg=>rfl
 case eg=>exact enters_of Tryz.func77 (by kernel_rfl) rfl
 case hseq=>exact HGI1.out
 case hps =>
  rintro x args W ⟨v,A',c',rfl,_⟩
  rfl
 case hHd =>
  rintro x args W ⟨v,A',c',rfl,h1,_⟩ k ⟨u,hu,hk⟩
  obtain rfl:v=u:=by simpa using hu
  obtain ⟨_,_,_,q,_,cells,hq⟩:=(Kd.R_bound h1).1 k hk
  exact ⟨q,cells,_,hq⟩
 case hProt=>rintro k (h | rfl) <;> omega
 case hG0=>exact fun _ h=>h.elim
 case hI=>exact IC1_own _ _
 case hIx=>exact fun _ _ _ _ _ h _=>h.elim
 case hstop=>exact fun _ _ _ _ _ _ _ h=>h.elim
 case hF0 =>
  rintro k rfl
  exact ⟨by omega,by omega⟩
 case h0=>exact ⟨Only.refl _ _,fun _=>Iff.rfl,hSs4⟩
 case hround =>
  intro l m pre x args F G W hl hlW hLp hFl hGl hI hpx hE hHF
  obtain ⟨q,x⟩:=x
  obtain ⟨v,A',c',rfl,hv,hC',hc'⟩:=hE
  simp only at hv hC' hc'
  unfold fileV
  have hWs:=hI.1.size
  have hIw:Below w.heap.size w W:=hb4w.trans (hI.1.below hb4w.size fun k hk e=>by omega)
  have HO1:=Lib.hid (Only.alloc (fun _=>False) W (.cells (fc x A' c') 25))
  have HN1:=Lib.hid (blk_new W (.cells (fc x A' c') 25))
  gi_wp2
  refine ⟨HO1.out,fun o' => ?_⟩
  have hlW1:l<(W.alloc (.cells (fc x A' c') 25)).heap.size:=by simp;omega
  have HO2:=Lib.hid ((HO1.out.trans (Only.putObj _ l (.loop o')) (K:=fun k=>k=l) (fun _ _ h=>h.elim) (fun _ _ h=>h)))
  have HN2:=Lib.hid ((World.putObj_heap_other (o:=.loop o') (show W.heap.size≠l by omega)).trans HN1.out)
  have hz2:W.heap.size<((W.alloc (.cells (fc x A' c') 25)).putObj l (.loop o')).heap.size:=by simp [World.putObj]
  generalize ((W.alloc (.cells (fc x A' c') 25)).putObj l (.loop o'))=W2 at *
  obtain ⟨r,hr⟩:=hLp
  have HV2:=Lib.hid (R_only (Kd.R_bound hv) HO2.out fun k hk e=>by obtain ⟨_,_,_,qq,_,cells,hq⟩:=hk;rw [e,hr] at hq;cases hq)
  have hbw2:Below w.heap.size w W2:=hIw.trans (HO2.out.below hIw.size fun k hk e=>by omega)
  have hmem:=hpx.subset (List.mem_append_right _ (List.mem_singleton.2 rfl))
  have hq:=HPA.out _ hmem
  simp only [List.length_nil] at hq
  have hbe:=HBA.out
  have hs0:(shownS []).size=0:=rfl
  have hcnt:=HCA.out
  have hpl:=hpx.length_le
  rw [List.length_append,List.length_singleton] at hpl
  have hql:q.length≤1099511627776:=by omega
  have hqs:(shownS q).size≤70368744177664:=by omega
  obtain ⟨Aq,cq,rfl,hcq,hCq⟩:=Kd.R_reads hv
  clear hs0 hmem hq hbe hCq
  obtain ⟨hIo,hFm,hS⟩:=hI
  have hS2:=hS.mv (HO2.out.block _ hS.lt fun e=>hFl ((hFm l).2 e.symm))
  have hu:Boxed W Wm.heap.size 115 (.map (some w2.heap.size)):=Boxed_only hns4 hIo fun e=>by omega
  have hu2:Boxed W2 Wm.heap.size 115 (.map (some w2.heap.size)):=Boxed_only hu HO2.out fun e=>by omega
  have hm2:=hu.lt
  gi_wp2
  refine startIn_ (n:=5) (S:=fun w'=>w'.cell? ⟨Wm.heap.size,0,none⟩=some (.map (some w2.heap.size))∧w'.heap[W.heap.size]? = some (.cells (fc x A' c') 25 (0,0))) (ds:=[]) (bmE 5 0) (by kernel_rfl) (by kernel_rfl) (by rintro ⟨a,w,h⟩;exact h) rfl rfl ⟨hu2.cell,HN2.out⟩ (fun hHeld => ?_)
  have hWd:Below W2.heap.size W2 W2.drew:=bdrew (Below.refl _ _)
  have hSd:Seen W2.drew w2.heap.size (seenOf pre):=hS2
  have HQC:Hid (Kd.C Kd.string W2.drew Aq q.length q):=Lib.hid (Kd.R_reads' (Kd.R_below HV2.out hWd)).2.2
  generalize W2.drew=Wd at *
  obtain ⟨o8,hup,hS8⟩:=seen_update Tryz.underlying115 Tryz.underlying9 hSd (shownS q) x.name x.kind x.data A' x.files.length c'
  have HS8:=Lib.hid hS8
  have hsd:=hWd.size
  clear hS8 hSd
  refine pA 1 31 (bmE 5 2) ?_
  refine tA 0 30 (bmE 5 3) hHeld ?_ (hy:=by
   rintro w' ⟨s0,s1⟩
   go_simp
   with_reducible rfl)
  refine tA 3 33 (bmE 5 11) hHeld ?_ (hy:=by
   rintro w' ⟨s0,s1⟩
   have q0:=cell_of (j:=0) s1 rfl
   have q1:=cell_of (j:=1) s1 rfl
   have q2:=cell_of (j:=2) s1 rfl
   have q3:=cell_of (j:=3) s1 rfl
   go_simp
   with_reducible rfl)
  refine eA 2 32 (bmE 5 15) (fun K hK => ?_)
  refine gA Tryz.func41 #[.slice Aq q.length cq] ?_
  refine (shown_calls Aq cq q _ HQC.out hcq hql hqs).mono ?_
  rintro e u4 ⟨rfl,rfl⟩
  refine ⟨_,rfl,?_⟩
  refine hK.out _ _ hHeld (fun hHeld => ?_)
  refine nA 32 ?_
  refine one_ (i:=4) (N:=none) (bmE 5 31) rfl rfl (by kernel_rfl) (by decide) (fun K hK => ?_)
  refine sA ?_
  refine hK.out _ _ ⟨(cell_heapC (World.putObj_heap_other (by simp only;omega))).trans hHeld.1,(World.putObj_heap_other (by omega)).trans hHeld.2⟩ (fun _ => ?_)
  refine done_ (by kernel_rfl) ?_
  have hO9:Only F W2 (u4.putObj w2.heap.size o8):=(Only.of_below hWd F).trans (Only.putObj u4 w2.heap.size o8) (fun _ _ h=>h) (fun k _ e=>(hFm k).2 e)
  have hz9:(u4.putObj w2.heap.size o8).heap.size=u4.heap.size:=by simp [World.putObj]
  gi_wp2
  exact ⟨F,fun k=>G k∨(W.heap.size≤k∧k<(u4.putObj w2.heap.size o8).heap.size),hO9,fun k hk=>.inl hk,fun k hk=>hk.imp id .inr,hIo.trans (((HO2.out.mono (H:=fun k=>k=w2.heap.size∨V1.heap.size≤k) fun k _ e=>.inr (by omega)).trans hO9 (K:=fun k=>k=w2.heap.size∨V1.heap.size≤k) (fun _ _ h=>h) fun k _ e=>.inl ((hFm k).1 e))) (fun _ _ h=>h) (fun k hk e=>by omega),hFm,by rw [seenOf_snoc];exact HS8.out⟩
 case hdone =>
  skip
  intro D1 F G Wa hD1 hI hK1
  obtain ⟨hIo,hFm,hS⟩:=hI
  obtain ⟨q0,hq0⟩:∃ q,seenOf (preF [] a)=q:=⟨_,rfl⟩
  rw [hq0] at hS
  have HQ0:=Lib.hid hq0
  have hws:=hIo.size
  have hwb:=hb4w.trans (hIo.below hb4w.size fun k hk e=>by omega)
  have hnsW:=Boxed_only hns4 hIo fun e=>by omega
  have hnAW:=(hIo.block w.heap.size (by omega) (by omega)).trans HNA.out
  have hnBW:=(hIo.block (w.heap.size+1) (by omega) (by omega)).trans HNB.out
  have hbo:=below_alloc (Below.refl Wa.heap.size Wa) (.cells #[.slice none 0 0] 40)
  have hno:=Boxed.new Wa 40 (.slice none 0 0)
  have hzo:Wa.heap.size<(Wa.alloc (.cells #[.slice none 0 0] 40)).heap.size:=by simp
  have hnBo:=(hbo.block (w.heap.size+1) (by omega)).trans hnBW
  obtain ⟨y0,y1,y2,y3⟩:=c4A hnBo
  have HHH:=Lib.hid (show True from trivial)
  clear hq0 hIo HGI1 HNA HNB
  go_wp2_with fail
  clear y0 y1 y2 y3
  generalize Wa.alloc (.cells #[.slice none 0 0] 40)=Wo at *
  refine (each_calls b B d Wo).mono ?_
  rintro e V2 ⟨rfl,hw2⟩
  have hbe2:=below_alloc (Below.refl Wo.heap.size Wo) (.cells (fc b B d) 25)
  have hne2:=blk_new Wo (.cells (fc b B d) 25)
  have hze2:Wo.heap.size<(Wo.alloc (.cells (fc b B d) 25)).heap.size:=by simp
  rw [← hw2] at hbe2 hne2 hze2
  clear hw2
  have hb5o:=hbo.trans (hbe2.mono (by omega))
  have hb5w:=hwb.trans (hb5o.mono hwb.size)
  have hns5:=Boxed_below hnsW hb5o hnsW.lt
  have hno5:=Boxed_below hno hbe2 hno.lt
  have hS5:=hS.mv (hb5o.block _ hS.lt)
  have HNA:=Lib.hid ((hb5o.block w.heap.size (by omega)).trans hnAW)
  have HK1:=Lib.hid ((hb5o.block D1 (Array.getElem?_eq_some_iff.1 hK1).1).trans hK1)
  have HGI2:=Lib.hid (each_gives w V2 b B d Wo.heap.size (by omega) HB.out hcb hb5w (by omega) hne2)
  have hv2s:=hb5o.size
  have hSlt:=hS.lt
  have hslt:=hnsW.lt
  have hDlt:=(Array.getElem?_eq_some_iff.1 hK1).1
  clear hnsW hno hS hnAW hnBW hbo hbe2 hne2 hnBo hns4 hK1 hFm
  go_wp2_with fail
  refine (wpIn_wide (n:=5)).1 ?_
  apply wpIn_rangeR (n:=5) (gf:=77) (lb:=#[.pointer (some ⟨Wo.heap.size,0,none⟩)]) (Enc:=EncF w V2.heap.size) (Hd:=HdF) (Prot:=fun k=>k<w.heap.size∨k=Wo.heap.size) (full:=preF [] b)
   (I:=IC2 V2 w2.heap.size Wa.heap.size q0) (Ix:=fun _ _ _ _=>False) (F0:=fun k=>k=w2.heap.size∨k=Wa.heap.size) (G0:=fun _=>False)
  case hg=>rfl
  case eg=>exact enters_of Tryz.func77 (by kernel_rfl) rfl
  case hseq=>exact HGI2.out
  case hps =>
   rintro x args W ⟨v,A',c',rfl,_⟩
   rfl
  case hHd =>
   rintro x args W ⟨v,A',c',rfl,h1,_⟩ k ⟨u,hu,hk⟩
   obtain rfl:v=u:=by simpa using hu
   obtain ⟨_,_,_,q,_,cells,hq⟩:=(Kd.R_bound h1).1 k hk
   exact ⟨q,cells,_,hq⟩
  case hProt=>rintro k (h | rfl) <;> omega
  case hG0=>exact fun _ h=>h.elim
  case hI=>exact IC2_own _ _ _ _
  case hIx=>exact fun _ _ _ _ _ h _=>h.elim
  case hstop=>exact fun _ _ _ _ _ _ _ h=>h.elim
  case hF0 =>
   rintro k (rfl | rfl)
   ·exact ⟨by omega,by omega⟩
   ·exact ⟨by omega,by omega⟩
  case h0=>exact ⟨Only.refl _ _,.inl rfl,.inr rfl,hS5,_,hno5,fun k h=>by simp [Value.ownBlock] at h,fun k hk=>hk.imp id .inl,Kd.R_nil _ _ _ _ _⟩
  case hround =>
   intro l m pre x args F G W hl hlW hLp hFl hGl hI hpx hE hHF
   obtain ⟨q,x⟩:=x
   obtain ⟨v,A',c',rfl,hv,hC',hc'⟩:=hE
   simp only at hv hC' hc'
   unfold fileV
   have hWs:=hI.1.size
   have hIw:Below w.heap.size w W:=hb5w.trans (hI.1.below hb5w.size fun k hk e=>by omega)
   have HO1:=Lib.hid (Only.alloc (fun _=>False) W (.cells (fc x A' c') 25))
   have HN1:=Lib.hid (blk_new W (.cells (fc x A' c') 25))
   gi_wp2
   refine ⟨HO1.out,fun o' => ?_⟩
   have hlW1:l<(W.alloc (.cells (fc x A' c') 25)).heap.size:=by simp;omega
   have HO2:=Lib.hid ((HO1.out.trans (Only.putObj _ l (.loop o')) (K:=fun k=>k=l) (fun _ _ h=>h.elim) (fun _ _ h=>h)))
   have HN2:=Lib.hid ((World.putObj_heap_other (o:=.loop o') (show W.heap.size≠l by omega)).trans HN1.out)
   have hz2:W.heap.size<((W.alloc (.cells (fc x A' c') 25)).putObj l (.loop o')).heap.size:=by simp [World.putObj]
   generalize ((W.alloc (.cells (fc x A' c') 25)).putObj l (.loop o'))=W2 at *
   obtain ⟨r,hr⟩:=hLp
   have HV2:=Lib.hid (R_only (Kd.R_bound hv) HO2.out fun k hk e=>by obtain ⟨_,_,_,qq,_,cells,hq⟩:=hk;rw [e,hr] at hq;cases hq)
   have hbw2:Below w.heap.size w W2:=hIw.trans (HO2.out.below hIw.size fun k hk e=>by omega)
   have hmem:=hpx.subset (List.mem_append_right _ (List.mem_singleton.2 rfl))
   have hq:=HPB.out _ hmem
   simp only [List.length_nil] at hq
   have hbe:=HBB.out
   have hs0:(shownS []).size=0:=rfl
   have hcnt:=HCB.out
   have hpl:=hpx.length_le
   rw [List.length_append,List.length_singleton] at hpl
   have hql:q.length≤1099511627776:=by omega
   have hqs:(shownS q).size≤70368744177664:=by omega
   obtain ⟨Aq,cq,rfl,hcq,hCq⟩:=Kd.R_reads hv
   clear hs0 hmem hq hbe hCq
   obtain ⟨hIo2,hFm,hFo,hS,u,hu,hFu,hFb,hR⟩:=hI
   have hSW2:=hS.mv (HO2.out.block _ hS.lt fun e=>hFl (e ▸ hFm))
   have hsb:Boxed W Wm.heap.size 115 (.map (some w2.heap.size)):=Boxed_only hns5 hIo2 fun e=>by omega
   have hsb2:Boxed W2 Wm.heap.size 115 (.map (some w2.heap.size)):=Boxed_only hsb HO2.out fun e=>by omega
   have hu2:Boxed W2 Wa.heap.size 40 u:=Boxed_only hu HO2.out fun e=>hFl (e ▸ hFo)
   have hR2:=RP_only hR HO2.out fun k hk _ e=>by rw [e] at hk;exact hk.elim hFl hGl
   obtain ⟨q1,hq1⟩:∃ y,(chgB q0 pre).1=y:=⟨_,rfl⟩
   obtain ⟨o1,ho1⟩:∃ y,(chgB q0 pre).2=y:=⟨_,rfl⟩
   rw [hq1] at hSW2
   rw [ho1] at hR2
   have ho1l:=congrArg List.length ho1
   have HC1:=Lib.hid (show chgB q0 (pre++[(q,x)])=(delQ q1 (shownS q),if lookQ q1 (shownS q)=some (x.kind,x.data) then o1 else o1++[q]) by rw [chgB_snoc,← hq1,← ho1];rfl)
   obtain ⟨lq,n3,k3,d3,A3,mm3,c3,b3,hM,hMS,hg3,hh3,hb3,hx3⟩:=seen_at hSW2 (shownS q)
   have HG3:=Lib.hid hg3
   have HH3:=Lib.hid hh3
   have HB3:=Lib.hid hb3
   have HX3:=Lib.hid hx3
   clear hq1 ho1 hR hu hsb hS hg3 hh3 hb3 hx3
   gi_wp2
   refine startIn_ (n:=10) (S:=fun w'=>w'.cell? ⟨Wm.heap.size,0,none⟩=some (.map (some w2.heap.size))∧Mapped w' w2.heap.size lq) (ds:=[]) (bmE 10 0) (by kernel_rfl) (by kernel_rfl) (by rintro ⟨a,w,h⟩;exact h) rfl rfl ⟨hsb2.cell,hM⟩ (fun hHeld => ?_)
   refine pA 1 40 (bmE 10 2) ?_
   refine tA 0 39 (bmE 10 3) hHeld ?_ (hy:=by
    rintro w' ⟨s0,s1⟩
    go_simp
    with_reducible rfl)
   refine join_ (σ:=(Unit)×Nat) 2 (bmE 10 255) (fun s=>match s with | ((),gx)=>[(41,.string (shownS q)),(42,.tuple #[.agg #[.string n3,.int .u8 k3,.string d3,.slice A3 mm3 c3],.bool b3]),(38,.tuple #[.agg #[.string n3,.int .u8 k3,.string d3,.slice A3 mm3 c3],.bool b3]),(43,.agg #[.string n3,.int .u8 k3,.string d3,.slice A3 mm3 c3]),(44,.bool b3),(12,.pointer (some ⟨gx,0,none⟩))]) (fun s W=>match s with | ((),gx)=>Below W2.heap.size W2 W∧W2.heap.size≤gx∧W.heap[gx]? = some (.cells zC 25 (0,0))) ?_ ?_
   rotate_left
   ·intro hc0
    refine join_ (σ:=(Unit)) 3 (bmE 10 127) (fun s=>match s with | ()=>[(41,.string (shownS q)),(42,.tuple #[.agg #[.string n3,.int .u8 k3,.string d3,.slice A3 mm3 c3],.bool b3]),(38,.tuple #[.agg #[.string n3,.int .u8 k3,.string d3,.slice A3 mm3 c3],.bool b3]),(43,.agg #[.string n3,.int .u8 k3,.string d3,.slice A3 mm3 c3]),(44,.bool b3)]) (fun s W=>match s with | ()=>Below W2.heap.size W2 W) ?_ ?_
    ·rintro ⟨⟩ V hF
     have hb:=hF
     refine uA ?_
     refine eA 7 12 (bmE 10 255) (fun K hK => ?_)
     have ha:=below_alloc (Below.refl V.heap.size V) (.cells zC 25)
     have hbn:=below_alloc hb (.cells zC 25)
     refine vA ?_
     refine hK.out _ _ (⟨(Boxed_below hsb2 hbn hsb2.lt).cell,hM.mv (hbn.block _ hM.lt)⟩) (fun hHeld => ?_)
     refine nA 12 ?_
     refine jA (hc0 ((),V.heap.size) _ (⟨hbn,hb.size,blk_new V (.cells zC 25)⟩))
    intro hc1
    refine join_ (σ:=Nat) 7 (bmE 10 131) (fun s=>match s with | gx=>[(12,.pointer (some ⟨gx,0,none⟩))]) (fun s W=>match s with | gx=>Below W2.heap.size W2 W∧W2.heap.size≤gx∧W.heap[gx]? = some (.cells zC 25 (0,0))) ?_ ?_
    ·rintro gx V hF
     obtain ⟨hb,hl7,hz7⟩:=hF
     refine uA ?_
     refine eA 2 41 (bmE 10 135) (fun K hK => ?_)
     refine gA Tryz.func41 #[.slice Aq q.length cq] ?_
     refine ((shown_below Aq cq q _ (Kd.R_reads' (Kd.R_below HV2.out hb)).2.2 hcq hql hqs)).mono ?_
     rintro e w5 ⟨rfl,hq5⟩
     refine ⟨_,rfl,?_⟩
     have hbn:=hb.trans (hq5.mono hb.size)
     refine hK.out _ _ (⟨(Boxed_below hsb2 hbn hsb2.lt).cell,hM.mv (hbn.block _ hM.lt)⟩) (fun hHeld => ?_)
     refine nA 41 ?_
     refine tA 3 42 (bmE 10 143) hHeld ?_ (hy:=by
      rintro w' ⟨s0,s1⟩
      have hl3:=mapped_at Tryz.underlying115 Tryz.underlying9 s1 (shownS q) (zero_fileC w') HG3.out HH3.out
      go_simp
      with_reducible rfl)
     refine pA 4 38 (bmE 10 159) ?_
     refine pA 5 43 (bmE 10 191) ?_
     refine pA 6 44 (bmE 10 255) ?_
     refine jA (hc0 ((),gx) _ (⟨hbn,hl7,(hq5.block _ (blk_lt hz7)).trans hz7⟩))
    intro hc2
    have hb:Below W2.heap.size W2 W2.drew:=bdrew (Below.refl _ _)
    generalize hVV:W2.drew=V at *
    refine two_ (i:=2) (j:=7) (Ni:=some 41) (Nj:=some 12) (bmE 10 7) (bmE 10 131) rfl rfl rfl rfl (by kernel_rfl) (by decide) (by decide) (fun K hK => ?_) (fun K hK => ?_)
    ·refine gA Tryz.func41 #[.slice Aq q.length cq] ?_
     refine ((shown_below Aq cq q _ (Kd.R_reads' (Kd.R_below HV2.out hb)).2.2 hcq hql hqs)).mono ?_
     rintro e w5 ⟨rfl,hq5⟩
     refine ⟨_,rfl,?_⟩
     have hbn:=hb.trans (hq5.mono hb.size)
     refine hK.out _ _ (⟨(Boxed_below hsb2 hbn hsb2.lt).cell,hM.mv (hbn.block _ hM.lt)⟩) (fun hHeld => ?_)
     refine nA 41 ?_
     refine tA 3 42 (bmE 10 15) hHeld ?_ (hy:=by
      rintro w' ⟨s0,s1⟩
      have hl3:=mapped_at Tryz.underlying115 Tryz.underlying9 s1 (shownS q) (zero_fileC w') HG3.out HH3.out
      go_simp
      with_reducible rfl)
     refine pA 4 38 (bmE 10 31) ?_
     refine pA 5 43 (bmE 10 63) ?_
     refine pA 6 44 (bmE 10 127) ?_
     refine jA (hc1 () _ (hbn))
    ·have ha:=below_alloc (Below.refl V.heap.size V) (.cells zC 25)
     have hbn:=below_alloc hb (.cells zC 25)
     refine vA ?_
     refine hK.out _ _ (⟨(Boxed_below hsb2 hbn hsb2.lt).cell,hM.mv (hbn.block _ hM.lt)⟩) (fun hHeld => ?_)
     refine nA 12 ?_
     refine jA (hc2 V.heap.size _ (⟨hbn,hb.size,blk_new V (.cells zC 25)⟩))
   ·rintro ⟨⟨⟩,gx⟩ V hF
    obtain ⟨hb,hl7,hz7⟩:=hF
    refine uA ?_
    refine one_ (i:=8) (N:=none) (bmE 10 511) rfl rfl (by kernel_rfl) (by decide) (fun K hK => ?_)
    obtain ⟨az0,az1,az2,az3⟩:=c4A hz7
    obtain ⟨au0,au1,au2,au3⟩:=u4A hz7
    refine sA ?_
    have HO8:=Lib.hid (store4_only V gx (.string n3) (.int .u8 k3) (.string d3) (.slice A3 mm3 c3))
    have hb8:=hb.trans (HO8.out.below (B:=W2.heap.size) hb.size (fun k hk e=>by omega))
    have HS8:Hid (((((V.setCell ⟨gx,0,none⟩ (.string n3)).setCell ⟨gx,1,none⟩ (.int .u8 k3)).setCell ⟨gx,2,none⟩ (.string d3)).setCell ⟨gx,3,none⟩ (.slice A3 mm3 c3)).heap[gx]? = some (.cells #[.string n3,.int .u8 k3,.string d3,.slice A3 mm3 c3] 25 (0,0))):=Lib.hid (set_blockC (set_blockC (set_blockC (set_blockC hz7 0 (.string n3)) 1 (.int .u8 k3)) 2 (.string d3)) 3 (.slice A3 mm3 c3))
    have hs8:=HO8.out.size
    have hgx:=blk_lt hz7
    refine hK.out _ _ (⟨(Boxed_below hsb2 hb8 hsb2.lt).cell,hM.mv (hb8.block _ hM.lt)⟩) (fun hHeld => ?_)
    clear az0 au0 az1 au1 az2 au2 az3 au3
    generalize ((((V.setCell ⟨gx,0,none⟩ (.string n3)).setCell ⟨gx,1,none⟩ (.int .u8 k3)).setCell ⟨gx,2,none⟩ (.string d3)).setCell ⟨gx,3,none⟩ (.slice A3 mm3 c3))=V8 at *
    refine pA 9 13 (bmE 10 1023) ?_
    refine done_ (by kernel_rfl) ?_
    have hxb:=(hb8.block _ hz2).trans HN2.out
    have hu8:=Boxed_below hu2 hb8 hu2.lt
    have hsb8:=Boxed_below hsb2 hb8 hsb2.lt
    have hS8:=hMS _ (hM.mv (hb8.block _ hM.lt))
    have hR8:=RP_only hR2 (Only.of_below hb8 (fun _=>False)) (fun _ _ _ h=>h)
    have hV8:=Kd.R_below HV2.out hb8
    have hvh:∀ k,(Value.slice Aq q.length cq).ownBlock=some k→¬ F k:=fun k hk=>hHF k ⟨_,rfl,hk⟩
    have hvlt:∀ k,(Value.slice Aq q.length cq).ownBlock=some k→k<W.heap.size:=fun k hk=>Kd.R_lt hv k hk
    have hult:∀ k,u.ownBlock=some k→V2.heap.size≤k∧k<V8.heap.size:=fun k hk=>⟨((Kd.R_bound hR8).1 k hk).2.1,Kd.R_lt hR8 k hk⟩
    have hs28:=hb8.size
    have HEND:Hid (∀ (X:World) (u1:Value) (o2:List (List ByteArray)) (o:Obj) (a':Act),Only F W2 X→V8.heap.size≤X.heap.size→Boxed X Wa.heap.size 40 u1→(u1.ownBlock=u.ownBlock∨∃ b,u1.ownBlock=some b∧V8.heap.size≤b) →
      Kd.R PathK 37 X V2.heap.size (fun k=>(F k∨G k)∨(Value.slice Aq q.length cq).ownBlock=some k∨V8.heap.size≤k) u1 o2→(chgB q0 (pre++[(q,x)])).2=o2→Seen (X.putObj w2.heap.size o) w2.heap.size (delQ q1 (shownS q)) →
      roundR (IC2 V2 w2.heap.size Wa.heap.size q0) (fun _ _ _ _=>False) HdF (pre++[(q,x)]) #[.slice Aq q.length cq,.agg (fc x A' c')] F G W W2 .normal a' (X.putObj w2.heap.size o)):=Lib.hid (by
     intro X u1 o2 o a' hO hsX hu1 hat hR1 ho2 hSE
     have hz9:(X.putObj w2.heap.size o).heap.size=X.heap.size:=by simp [World.putObj]
     have hO9:Only F W2 (X.putObj w2.heap.size o):=hO.trans (Only.putObj X w2.heap.size o) (fun _ _ h=>h) (fun k _ e=>e ▸ hFm)
     have hb1:=Kd.R_bound hR1
     have h1lt:∀ k,u1.ownBlock=some k→k<X.heap.size:=Kd.R_lt hR1
     refine ⟨fun k=>F k∨u1.ownBlock=some k,fun k=>G k∨(Value.slice Aq q.length cq).ownBlock=some k∨(W.heap.size≤k∧k<X.heap.size),hO9,fun k hk => ?_,fun k hk => ?_,?_,.inl hFm,.inl hFo,by rw [HC1.out];exact hSE,u1,Boxed_only hu1 (Only.putObj X w2.heap.size o) (fun e=>by omega),fun k hk=>.inr hk,fun k hk => ?_,?_⟩
     ·rw [hz9]
      rcases hk with hk | hk
      ·exact .inl hk
      ·rcases hat with h | ⟨b',h,hb'⟩
       ·exact .inl (hFu k (h ▸ hk))
       ·rw [hk] at h
        injection h with h
        exact .inr ⟨by omega,h1lt k hk⟩
     ·rw [hz9]
      rcases hk with hk | hk | hk
      ·exact .inl hk
      ·exact .inr (.inl ⟨_,rfl,hk⟩)
      ·exact .inr (.inr hk)
     ·exact (hIo2.trans HO2.out (K:=fun k=>k=w2.heap.size∨k=Wa.heap.size) (fun _ _ h=>h) (fun k hk e=>by omega)).trans hO9 (fun _ _ h=>h) (fun k hk h=>by have:=hFb k h;omega)
     ·rcases hk with hk | hk
      ·exact hFb k hk
      ·exact .inr (.inr (hb1.1 k hk).2.1)
     ·rw [ho2]
      refine Kd.R_mono (Kd.R_move (w1:=X.putObj w2.heap.size o) hb1 fun k hk=>World.putObj_heap_other (by have:=hk.2.1;omega)) fun k hk => ?_
      rcases hk.1 with (h | h) | h | h
      ·exact .inl (.inl h)
      ·exact .inr (.inl h)
      ·exact .inr (.inr (.inl h))
      ·exact .inr (.inr (.inr ⟨by omega,hk.2.2.1⟩)))
    obtain ⟨z0,z1,z2,z3⟩:=c4A hxb
    obtain ⟨g0,g1,g2,g3⟩:=c4A HS8.out
    have cu:=hu8.cell
    have fu:=hu8.frozen
    have HXB:=Lib.hid hxb
    have hcnt3:=HCB.out
    clear hxb hcnt
    by_cases hch:lookQ q1 (shownS q)=some (x.kind,x.data)
    ·have hp:=HX3.out _ hch
     have hbt:b3=true:=by rw [HB3.out,hch];rfl
     simp only [Prod.mk.injEq] at hp
     obtain ⟨rfl,rfl⟩:=hp
     subst hbt
     have HO2E:Hid ((chgB q0 (pre++[(q,x)])).2=o1):=Lib.hid (by rw [HC1.out];exact if_pos hch)
     clear hch
     gi_wp2
     have hsbX:=hsb8
     have hSX:=hS8
     have huX:=hu8
     have hRX:=Kd.R_mono hR8 (ok':=fun k=>(F k∨G k)∨(Value.slice Aq q.length cq).ownBlock=some k∨V8.heap.size≤k) fun k hk=>.inl hk
     have hOX:Only F W2 V8:=Only.of_below hb8 F
     have hsX:V8.heap.size≤V8.heap.size:=Nat.le_refl _
     have hVX:=hV8
     refine startIn_ (n:=4) (S:=fun w'=>w'.cell? ⟨Wm.heap.size,0,none⟩=some (.map (some w2.heap.size))) (ds:=[]) (bmE 4 0) (by kernel_rfl) (by kernel_rfl) (by rintro ⟨a,w,h⟩;exact h) rfl rfl hsbX.cell (fun hHeld => ?_)
     have hWd:Below V8.heap.size V8 V8.drew:=bdrew (Below.refl _ _)
     have hSd:Seen V8.drew w2.heap.size q1:=hSX
     have HEX:=Lib.hid (HEND.out V8.drew)
     have HQX:Hid (Kd.C Kd.string V8.drew Aq q.length q):=Lib.hid (Kd.R_reads' (Kd.R_below hVX hWd)).2.2
     have hRd:=RP_only hRX (Only.of_below hWd (fun _=>False)) (fun _ _ _ h=>h)
     have hOd:Only F W2 V8.drew:=hOX.trans (Only.of_below hWd F) (fun _ _ h=>h) (fun _ _ h=>h)
     have hud:=Boxed_below huX hWd huX.lt
     have hsd:V8.heap.size≤V8.drew.heap.size:=hsX
     generalize V8.drew=Wd at *
     obtain ⟨o8,hup,hS8⟩:=seen_delete (ty:=0) Tryz.underlying115 Tryz.underlying9 hSd (shownS q)
     have HS8d:=Lib.hid hS8
     clear hS8 hSd hWd hSX hRX hOX huX hsX hVX
     refine pA 1 66 (bmE 4 2) ?_
     refine tA 0 65 (bmE 4 3) hHeld ?_ (hy:=by
      rintro w' s0
      go_simp
      with_reducible rfl)
     refine eA 2 67 (bmE 4 7) (fun K hK => ?_)
     refine gA Tryz.func41 #[.slice Aq q.length cq] ?_
     refine (shown_calls Aq cq q _ HQX.out hcq hql hqs).mono ?_
     rintro e u4 ⟨rfl,rfl⟩
     refine ⟨_,rfl,?_⟩
     refine hK.out _ _ hHeld (fun hHeld => ?_)
     refine nA 67 ?_
     refine one_ (i:=3) (N:=none) (bmE 4 15) rfl rfl (by kernel_rfl) (by decide) (fun K hK => ?_)
     refine vA ?_
     refine hK.out _ _ ((cell_heapC (World.putObj_heap_other (by simp only;omega))).trans hHeld) (fun _ => ?_)
     refine done_ (by kernel_rfl) ?_
     gi_wp2
     exact HEX.out _ _ o8 _ hOd hsd hud (.inl rfl) hRd HO2E.out HS8d.out
    ·have h3:b3=false∨b3=true∧(k3 != x.kind)=true∨b3=true∧k3=x.kind∧(d3.toList == x.data.toList)=false:=by
      cases hb:b3 with
      | false=>exact .inl rfl
      | true =>
       have h1:=HB3.out
       rw [hb] at h1
       obtain ⟨y,hy⟩:=Option.isSome_iff_exists.1 h1.symm
       have h2:=HX3.out y hy
       subst h2
       by_cases hk:k3=x.kind
       ·by_cases hd:d3=x.data
        ·exact absurd (by rw [hy,hk,hd]) hch
        ·exact .inr (.inr ⟨rfl,hk,beq_eq_false_iff_ne.2 fun e=>hd (toList_inj.1 e)⟩)
       ·exact .inr (.inl ⟨rfl,bne_iff_ne.2 hk⟩)
     have HO2E:Hid ((chgB q0 (pre++[(q,x)])).2=o1++[q]):=Lib.hid (by rw [HC1.out];exact if_neg hch)
     have hol:=chgB_len q0 pre
     rw [ho1l] at hol
     have hbe3:=HBB.out
     clear hch
     clear HB3 HX3 HC1
     obtain ⟨u9,w9,hrun,hR9,hB9,hg9,hat9⟩:=append_pathC (w0:=V8) 40 V2.heap.size (fun k=>(F k∨G k)∨(Value.slice Aq q.length cq).ownBlock=some k∨V8.heap.size≤k) (fun k=>(Value.slice Aq q.length cq).ownBlock=some k) u o1 (.slice Aq q.length cq) q
      (Kd.R_of_own (h1:=fun _=>rfl) (ok:=fun k=>(Value.slice Aq q.length cq).ownBlock=some k) (Kd.own_of_R hV8) fun k hk=>hk) (fun k hk=>⟨.inr (.inl hk),fun e=>hvh k hk (hFu k e.symm)⟩) (Kd.R_mono hR8 fun k hk=>.inl hk) (Below.refl _ _) (by omega) (fun k hk=>.inr (.inr hk)) (by omega)
     have hu9:Boxed w9 Wa.heap.size 40 u:=(hg9.block _ (Boxed.lt hu8) (Kd.R_ne hR8 hu8 (by decide))).trans hu8
     have c9:=hu9.cell
     have f9:=hu9.frozen
     have HRUN:=Lib.hid hrun
     have hgO:=Only.grown_of hg9
     have hs9:=hg9.size
     have hO9:Only F W2 (w9.setCell ⟨Wa.heap.size,0,none⟩ u9):=((Only.of_below hb8 F).trans hgO (K:=F) (fun _ _ h=>h) (fun k _ h=>hFu k h)).trans (Only.setCell w9 _ u9) (fun _ _ h=>h) (fun k _ h=>by rw [h];exact hFo)
     have hsX:V8.heap.size≤(w9.setCell ⟨Wa.heap.size,0,none⟩ u9).heap.size:=by simpa [World.setCell] using hs9
     have hRX:=Kd.R_mono (Kd.R_set (Kd.R_bound hR9) hu9 (by decide) 0 u9) fun k hk=>hk.1
     have huX:=hu9.set u9
     have hneO:∀ k,k<V8.heap.size→k≠Wa.heap.size→u.ownBlock≠some k→(w9.setCell ⟨Wa.heap.size,0,none⟩ u9).heap[k]? = V8.heap[k]? := fun k hk h1 h2=>(Below.heap_setCell w9 _ u9 k h1).trans (hg9.block k hk (fun e=>h2 e.symm))
     have hSX:=hS8.mv (hneO _ (by have:=hS8.lt;omega) (by omega) (fun e=>by have:=(hult _ e).1;omega))
     have hsbX:Boxed (w9.setCell ⟨Wa.heap.size,0,none⟩ u9) Wm.heap.size 115 (.map (some w2.heap.size)):=(hneO _ hsb8.lt (by omega) (fun e=>by have:=(hult _ e).1;omega)).trans hsb8
     have hVX:=Kd.R_step (Kd.R_of_own (h1:=fun _=>rfl) (ok:=fun k=>(Value.slice Aq q.length cq).ownBlock=some k) (Kd.own_of_R hV8) fun k hk=>hk) (fun k hk hlt=>hneO k hlt (fun e=>hvh k hk (e ▸ hFo)) (fun e=>hvh k hk (hFu k e)))
     have hOX:=hO9
     have hat9':u9.ownBlock=u.ownBlock∨∃ b,u9.ownBlock=some b∧V8.heap.size≤b:=hat9
     obtain ⟨A9,c9',rfl,_,_⟩:=Kd.R_reads hR9
     have HAT:=Lib.hid hat9'
     generalize (o1++[q]).length=N9 at *
     clear hrun hgO hR9 hB9 hg9 hneO hO9 hat9 hat9' ho1l
     rcases h3 with rfl | ⟨rfl,hk⟩ | ⟨rfl,rfl,hd⟩
     all_goals gi_wp2_with (gi_at_builtin;refine appendIn rfl (.tmp 61) (.tmp 63) 40 rfl _ _ _ rfl rfl HRUN.out ?_)
     all_goals generalize (w9.setCell ⟨Wa.heap.size,0,none⟩ (.slice A9 N9 c9'))=X at *
     all_goals
      refine startIn_ (n:=4) (S:=fun w'=>w'.cell? ⟨Wm.heap.size,0,none⟩=some (.map (some w2.heap.size))) (ds:=[]) (bmE 4 0) (by kernel_rfl) (by kernel_rfl) (by rintro ⟨a,w,h⟩;exact h) rfl rfl hsbX.cell (fun hHeld => ?_)
      have hWd:Below X.heap.size X X.drew:=bdrew (Below.refl _ _)
      have hSd:Seen X.drew w2.heap.size q1:=hSX
      have HEX:=Lib.hid (HEND.out X.drew)
      have HQX:Hid (Kd.C Kd.string X.drew Aq q.length q):=Lib.hid (Kd.R_reads' (Kd.R_below hVX hWd)).2.2
      have hRd:=RP_only hRX (Only.of_below hWd (fun _=>False)) (fun _ _ _ h=>h)
      have hOd:Only F W2 X.drew:=hOX.trans (Only.of_below hWd F) (fun _ _ h=>h) (fun _ _ h=>h)
      have hud:=Boxed_below huX hWd huX.lt
      have hsd:V8.heap.size≤X.drew.heap.size:=hsX
      generalize X.drew=Wd at *
      obtain ⟨o8,hup,hS8⟩:=seen_delete (ty:=0) Tryz.underlying115 Tryz.underlying9 hSd (shownS q)
      have HS8d:=Lib.hid hS8
      clear hS8 hSd hWd hSX hRX hOX huX hsX hVX
      refine pA 1 66 (bmE 4 2) ?_
      refine tA 0 65 (bmE 4 3) hHeld ?_ (hy:=by
       rintro w' s0
       go_simp
       with_reducible rfl)
      refine eA 2 67 (bmE 4 7) (fun K hK => ?_)
      refine gA Tryz.func41 #[.slice Aq q.length cq] ?_
      refine (shown_calls Aq cq q _ HQX.out hcq hql hqs).mono ?_
      rintro e u4 ⟨rfl,rfl⟩
      refine ⟨_,rfl,?_⟩
      refine hK.out _ _ hHeld (fun hHeld => ?_)
      refine nA 67 ?_
      refine one_ (i:=3) (N:=none) (bmE 4 15) rfl rfl (by kernel_rfl) (by decide) (fun K hK => ?_)
      refine vA ?_
      refine hK.out _ _ ((cell_heapC (World.putObj_heap_other (by simp only;omega))).trans hHeld) (fun _ => ?_)
      refine done_ (by kernel_rfl) ?_
      gi_wp2
      exact HEX.out _ _ o8 _ hOd hsd hud HAT.out hRd HO2E.out HS8d.out
  case hdone =>
   skip
   intro D2 F2 G2 Wb hD2 hI hK2
   obtain ⟨hIo2,hFm2,hFo2,hS,u0,hu,hFu2,hFb2,hR⟩:=hI
   obtain ⟨q1,hq1⟩:∃ y,(chgB q0 (preF [] b)).1=y:=⟨_,rfl⟩
   obtain ⟨o1,ho1⟩:∃ y,(chgB q0 (preF [] b)).2=y:=⟨_,rfl⟩
   have hol:=chgB_len q0 (preF [] b)
   rw [hq1] at hS
   rw [ho1] at hR hol
   have HQ1:=Lib.hid hq1
   have HO1L:=Lib.hid ho1
   have hws2:=hIo2.size
   have hwb2:=hb5w.trans (hIo2.below hb5w.size fun k hk e=>by omega)
   have hnsW:=Boxed_only hns5 hIo2 fun e=>by omega
   have hnAW:=(hIo2.block w.heap.size (by omega) (by omega)).trans HNA.out
   have HK1b:=Lib.hid ((hIo2.block D1 (by omega) (by omega)).trans HK1.out)
   have hult:∀ k,u0.ownBlock=some k→V2.heap.size≤k∧k<Wb.heap.size:=fun k hk=>⟨((Kd.R_bound hR).1 k hk).2.1,Kd.R_lt hR k hk⟩
   obtain ⟨y0,y1,y2,y3⟩:=c4A hnAW
   clear hq1 ho1 HGI2 hIo2 HNA HK1
   go_wp2_with fail
   clear y0 y1 y2 y3
   refine (each_calls a A c Wb).mono ?_
   rintro e V3 ⟨rfl,hw3⟩
   have hbe3:=below_alloc (Below.refl Wb.heap.size Wb) (.cells (fc a A c) 25)
   have hne3:=blk_new Wb (.cells (fc a A c) 25)
   have hze3:Wb.heap.size<(Wb.alloc (.cells (fc a A c) 25)).heap.size:=by simp
   rw [← hw3] at hbe3 hne3 hze3
   clear hw3
   have hb6w:=hwb2.trans (hbe3.mono hwb2.size)
   have hns6:=Boxed_below hnsW hbe3 hnsW.lt
   have hu6:=Boxed_below hu hbe3 hu.lt
   have hS6:=hS.mv (hbe3.block _ hS.lt)
   have hR6:=RP_only hR (Only.of_below hbe3 (fun _=>False)) (fun _ _ _ h=>h)
   have hD1l:=(Array.getElem?_eq_some_iff.1 HK1b.out).1
   have hD2l:=(Array.getElem?_eq_some_iff.1 hK2).1
   have HK1:=Lib.hid ((hbe3.block D1 hD1l).trans HK1b.out)
   have HK2:=Lib.hid ((hbe3.block D2 hD2l).trans hK2)
   have HGI3:=Lib.hid (each_gives w V3 a A c Wb.heap.size (by omega) HA.out hca hb6w (by omega) hne3)
   have hSlt6:=hS6.lt
   have hsb6l:=hns6.lt
   have hD2u:∀ k,u0.ownBlock=some k→k≠D2:=fun k hk e=>by
    obtain ⟨_,inner,ho,_⟩:=hR6
    obtain ⟨cells,hc⟩:=own_typed ho k hk
    rw [e,HK2.out] at hc
    cases hc
   have hv3s:=hbe3.size
   have hoblt:=hu.lt
   clear hnsW hu hS hR hnAW hbe3 hne3 hK2 HK1b hns5
   go_wp2_with fail
   refine (wpIn_wide (n:=5)).1 ?_
   apply wpIn_rangeR (n:=5) (gf:=77) (lb:=#[.pointer (some ⟨Wb.heap.size,0,none⟩)]) (Enc:=EncF w V3.heap.size) (Hd:=HdF) (Prot:=fun k=>k<w.heap.size∨k=Wb.heap.size) (full:=preF [] a)
    (I:=IC3 V3 Wa.heap.size V2.heap.size u0 q1 o1) (Ix:=fun _ _ _ _=>False) (F0:=fun k=>k=Wa.heap.size∨u0.ownBlock=some k) (G0:=fun _=>False)
   case hg=>rfl
   case eg=>exact enters_of Tryz.func77 (by kernel_rfl) rfl
   case hseq=>exact HGI3.out
   case hps =>
    rintro x args W ⟨v,A',c',rfl,_⟩
    rfl
   case hHd =>
    rintro x args W ⟨v,A',c',rfl,h1,_⟩ k ⟨u,hu,hk⟩
    obtain rfl:v=u:=by simpa using hu
    obtain ⟨_,_,_,q,_,cells,hq⟩:=(Kd.R_bound h1).1 k hk
    exact ⟨q,cells,_,hq⟩
   case hProt=>rintro k (h | rfl) <;> omega
   case hG0=>exact fun _ h=>h.elim
   case hI=>exact IC3_own _ _ _ _ _ _
   case hIx=>exact fun _ _ _ _ _ h _=>h.elim
   case hstop=>exact fun _ _ _ _ _ _ _ h=>h.elim
   case hF0 =>
    rintro k (rfl | h)
    ·exact ⟨by omega,by omega⟩
    ·have:=hult k h
     exact ⟨by omega,by omega⟩
   case h0=>exact ⟨Only.refl _ _,.inl rfl,fun k hk=>.inr hk,u0,hu6,fun k hk=>.inr hk,fun k hk=>hk.imp id .inl,Kd.R_mono (Kd.R_bound hR6) fun k hk=>.inr (.inr ⟨hk.2.1,hk.2.2.1⟩)⟩
   case hround =>
    intro l m pre x args F G W hl hlW hLp hFl hGl hI hpx hE hHF
    obtain ⟨q,x⟩:=x
    obtain ⟨v,A',c',rfl,hv,hC',hc'⟩:=hE
    simp only at hv hC' hc'
    unfold fileV
    have hWs:=hI.1.size
    have hIw:Below w.heap.size w W:=hb6w.trans (hI.1.below hb6w.size fun k hk e=>by rcases e with e | e;omega;have:=hult k e;omega)
    gi_wp2
    refine ⟨Only.refl _ _,fun o' => ?_⟩
    have HO2:=Lib.hid (Only.putObj W l (.loop o'))
    have hz2:W.heap.size≤(W.putObj l (.loop o')).heap.size:=by simp [World.putObj]
    generalize (W.putObj l (.loop o'))=W2 at *
    obtain ⟨r,hr⟩:=hLp
    have HV2:=Lib.hid (R_only (Kd.R_bound hv) HO2.out fun k hk e=>by obtain ⟨_,_,_,qq,_,cells,hq⟩:=hk;rw [e,hr] at hq;cases hq)
    have hbw2:Below w.heap.size w W2:=hIw.trans (HO2.out.below hIw.size fun k hk e=>by omega)
    have hmem:=hpx.subset (List.mem_append_right _ (List.mem_singleton.2 rfl))
    have hq:=HPA.out _ hmem
    simp only [List.length_nil] at hq
    have hbe:=HBA.out
    have hs0:(shownS []).size=0:=rfl
    have hcnt:=HCA.out
    have hpl:=hpx.length_le
    rw [List.length_append,List.length_singleton] at hpl
    have hql:q.length≤1099511627776:=by omega
    have hqs:(shownS q).size≤70368744177664:=by omega
    obtain ⟨Aq,cq,rfl,hcq,hCq⟩:=Kd.R_reads hv
    clear hs0 hmem hq hbe hCq
    obtain ⟨hIo3,hFo,hF0,u,hu,hFu,hFb,hR⟩:=hI
    have hne6:∀ k,u0.ownBlock=some k→k≠w2.heap.size∧k≠Wm.heap.size:=fun k hk=>by have:=hult k hk;omega
    have hSW:=hS6.mv (hIo3.block _ hS6.lt fun e=>by rcases e with e | e;omega;exact (hne6 _ e).1 rfl)
    have hSW2:=hSW.mv (HO2.out.block _ hSW.lt fun e=>by omega)
    have hsb:Boxed W Wm.heap.size 115 (.map (some w2.heap.size)):=Boxed_only hns6 hIo3 fun e=>by rcases e with e | e;omega;exact (hne6 _ e).2 rfl
    have hsb2:Boxed W2 Wm.heap.size 115 (.map (some w2.heap.size)):=Boxed_only hsb HO2.out fun e=>by omega
    have hu2:Boxed W2 Wa.heap.size 40 u:=Boxed_only hu HO2.out fun e=>hFl (e ▸ hFo)
    have hR2:=RP_only hR HO2.out fun k hk _ e=>by
     rw [e] at hk
     rcases hk with hk | hk | hk
     ·exact hFl hk
     ·exact hGl hk
     ·omega
    obtain ⟨o3,ho2⟩:∃ y,chgR q1 o1 pre=y:=⟨_,rfl⟩
    rw [ho2] at hR2
    obtain ⟨lq,n3,k3,d3,A3,mm3,c3,b3,hM,hMS,hg3,hh3,hb3,hx3⟩:=seen_at hSW2 (shownS q)
    have HG3:=Lib.hid hg3
    have HH3:=Lib.hid hh3
    have HB3:=Lib.hid hb3
    have HO3E:=Lib.hid ho2
    clear hR hu hsb hSW hg3 hh3 hb3 hx3 ho2
    gi_wp2
    refine startIn_ (n:=10) (S:=fun w'=>w'.cell? ⟨Wm.heap.size,0,none⟩=some (.map (some w2.heap.size))∧Mapped w' w2.heap.size lq) (ds:=[]) (bmE 10 0) (by kernel_rfl) (by kernel_rfl) (by rintro ⟨a,w,h⟩;exact h) rfl rfl ⟨hsb2.cell,hM⟩ (fun hHeld => ?_)
    refine pA 1 74 (bmE 10 2) ?_
    refine tA 0 73 (bmE 10 3) hHeld ?_ (hy:=by
     rintro w' ⟨s0,s1⟩
     go_simp
     with_reducible rfl)
    refine join_ (σ:=(Unit)×Nat) 2 (bmE 10 255) (fun s=>match s with | ((),gx)=>[(75,.string (shownS q)),(76,.tuple #[.agg #[.string n3,.int .u8 k3,.string d3,.slice A3 mm3 c3],.bool b3]),(72,.tuple #[.agg #[.string n3,.int .u8 k3,.string d3,.slice A3 mm3 c3],.bool b3]),(77,.agg #[.string n3,.int .u8 k3,.string d3,.slice A3 mm3 c3]),(78,.bool b3),(15,.pointer (some ⟨gx,0,none⟩))]) (fun s W=>match s with | ((),gx)=>Below W2.heap.size W2 W∧W2.heap.size≤gx∧W.heap[gx]? = some (.cells zC 25 (0,0))) ?_ ?_
    rotate_left
    ·intro hc0
     refine join_ (σ:=(Unit)) 3 (bmE 10 127) (fun s=>match s with | ()=>[(75,.string (shownS q)),(76,.tuple #[.agg #[.string n3,.int .u8 k3,.string d3,.slice A3 mm3 c3],.bool b3]),(72,.tuple #[.agg #[.string n3,.int .u8 k3,.string d3,.slice A3 mm3 c3],.bool b3]),(77,.agg #[.string n3,.int .u8 k3,.string d3,.slice A3 mm3 c3]),(78,.bool b3)]) (fun s W=>match s with | ()=>Below W2.heap.size W2 W) ?_ ?_
     ·rintro ⟨⟩ V hF
      have hb:=hF
      refine uA ?_
      refine eA 7 15 (bmE 10 255) (fun K hK => ?_)
      have ha:=below_alloc (Below.refl V.heap.size V) (.cells zC 25)
      have hbn:=below_alloc hb (.cells zC 25)
      refine vA ?_
      refine hK.out _ _ (⟨(Boxed_below hsb2 hbn hsb2.lt).cell,hM.mv (hbn.block _ hM.lt)⟩) (fun hHeld => ?_)
      refine nA 15 ?_
      refine jA (hc0 ((),V.heap.size) _ (⟨hbn,hb.size,blk_new V (.cells zC 25)⟩))
     intro hc1
     refine join_ (σ:=Nat) 7 (bmE 10 131) (fun s=>match s with | gx=>[(15,.pointer (some ⟨gx,0,none⟩))]) (fun s W=>match s with | gx=>Below W2.heap.size W2 W∧W2.heap.size≤gx∧W.heap[gx]? = some (.cells zC 25 (0,0))) ?_ ?_
     ·rintro gx V hF
      obtain ⟨hb,hl7,hz7⟩:=hF
      refine uA ?_
      refine eA 2 75 (bmE 10 135) (fun K hK => ?_)
      refine gA Tryz.func41 #[.slice Aq q.length cq] ?_
      refine ((shown_below Aq cq q _ (Kd.R_reads' (Kd.R_below HV2.out hb)).2.2 hcq hql hqs)).mono ?_
      rintro e w5 ⟨rfl,hq5⟩
      refine ⟨_,rfl,?_⟩
      have hbn:=hb.trans (hq5.mono hb.size)
      refine hK.out _ _ (⟨(Boxed_below hsb2 hbn hsb2.lt).cell,hM.mv (hbn.block _ hM.lt)⟩) (fun hHeld => ?_)
      refine nA 75 ?_
      refine tA 3 76 (bmE 10 143) hHeld ?_ (hy:=by
       rintro w' ⟨s0,s1⟩
       have hl3:=mapped_at Tryz.underlying115 Tryz.underlying9 s1 (shownS q) (zero_fileC w') HG3.out HH3.out
       go_simp
       with_reducible rfl)
      refine pA 4 72 (bmE 10 159) ?_
      refine pA 5 77 (bmE 10 191) ?_
      refine pA 6 78 (bmE 10 255) ?_
      refine jA (hc0 ((),gx) _ (⟨hbn,hl7,(hq5.block _ (blk_lt hz7)).trans hz7⟩))
     intro hc2
     have hb:Below W2.heap.size W2 W2.drew:=bdrew (Below.refl _ _)
     generalize hVV:W2.drew=V at *
     refine two_ (i:=2) (j:=7) (Ni:=some 75) (Nj:=some 15) (bmE 10 7) (bmE 10 131) rfl rfl rfl rfl (by kernel_rfl) (by decide) (by decide) (fun K hK => ?_) (fun K hK => ?_)
     ·refine gA Tryz.func41 #[.slice Aq q.length cq] ?_
      refine ((shown_below Aq cq q _ (Kd.R_reads' (Kd.R_below HV2.out hb)).2.2 hcq hql hqs)).mono ?_
      rintro e w5 ⟨rfl,hq5⟩
      refine ⟨_,rfl,?_⟩
      have hbn:=hb.trans (hq5.mono hb.size)
      refine hK.out _ _ (⟨(Boxed_below hsb2 hbn hsb2.lt).cell,hM.mv (hbn.block _ hM.lt)⟩) (fun hHeld => ?_)
      refine nA 75 ?_
      refine tA 3 76 (bmE 10 15) hHeld ?_ (hy:=by
       rintro w' ⟨s0,s1⟩
       have hl3:=mapped_at Tryz.underlying115 Tryz.underlying9 s1 (shownS q) (zero_fileC w') HG3.out HH3.out
       go_simp
       with_reducible rfl)
      refine pA 4 72 (bmE 10 31) ?_
      refine pA 5 77 (bmE 10 63) ?_
      refine pA 6 78 (bmE 10 127) ?_
      refine jA (hc1 () _ (hbn))
     ·have ha:=below_alloc (Below.refl V.heap.size V) (.cells zC 25)
      have hbn:=below_alloc hb (.cells zC 25)
      refine vA ?_
      refine hK.out _ _ (⟨(Boxed_below hsb2 hbn hsb2.lt).cell,hM.mv (hbn.block _ hM.lt)⟩) (fun hHeld => ?_)
      refine nA 15 ?_
      refine jA (hc2 V.heap.size _ (⟨hbn,hb.size,blk_new V (.cells zC 25)⟩))
    ·rintro ⟨⟨⟩,gx⟩ V hF
     obtain ⟨hb,hl7,hz7⟩:=hF
     refine uA ?_
     refine one_ (i:=8) (N:=none) (bmE 10 511) rfl rfl (by kernel_rfl) (by decide) (fun K hK => ?_)
     obtain ⟨az0,az1,az2,az3⟩:=c4A hz7
     obtain ⟨au0,au1,au2,au3⟩:=u4A hz7
     refine sA ?_
     have HO8:=Lib.hid (store4_only V gx (.string n3) (.int .u8 k3) (.string d3) (.slice A3 mm3 c3))
     have hb8:=hb.trans (HO8.out.below (B:=W2.heap.size) hb.size (fun k hk e=>by omega))
     have HS8:Hid (((((V.setCell ⟨gx,0,none⟩ (.string n3)).setCell ⟨gx,1,none⟩ (.int .u8 k3)).setCell ⟨gx,2,none⟩ (.string d3)).setCell ⟨gx,3,none⟩ (.slice A3 mm3 c3)).heap[gx]? = some (.cells #[.string n3,.int .u8 k3,.string d3,.slice A3 mm3 c3] 25 (0,0))):=Lib.hid (set_blockC (set_blockC (set_blockC (set_blockC hz7 0 (.string n3)) 1 (.int .u8 k3)) 2 (.string d3)) 3 (.slice A3 mm3 c3))
     have hs8:=HO8.out.size
     have hgx:=blk_lt hz7
     refine hK.out _ _ (⟨(Boxed_below hsb2 hb8 hsb2.lt).cell,hM.mv (hb8.block _ hM.lt)⟩) (fun hHeld => ?_)
     clear az0 au0 az1 au1 az2 au2 az3 au3
     generalize ((((V.setCell ⟨gx,0,none⟩ (.string n3)).setCell ⟨gx,1,none⟩ (.int .u8 k3)).setCell ⟨gx,2,none⟩ (.string d3)).setCell ⟨gx,3,none⟩ (.slice A3 mm3 c3))=V8 at *
     refine pA 9 16 (bmE 10 1023) ?_
     refine done_ (by kernel_rfl) ?_
     have ho2:=HO3E.out
     have hu8:=Boxed_below hu2 hb8 hu2.lt
     have hR8:=RP_only hR2 (Only.of_below hb8 (fun _=>False)) (fun _ _ _ h=>h)
     have hV8:=Kd.R_below HV2.out hb8
     have hvh:∀ k,(Value.slice Aq q.length cq).ownBlock=some k→¬ F k:=fun k hk=>hHF k ⟨_,rfl,hk⟩
     have hvlt:∀ k,(Value.slice Aq q.length cq).ownBlock=some k→k<W.heap.size:=fun k hk=>Kd.R_lt hv k hk
     have hvge:∀ k,(Value.slice Aq q.length cq).ownBlock=some k→V3.heap.size≤k:=fun k hk=>((Kd.R_bound hv).1 k hk).2.1
     have hs28:=hb8.size
     have HEND:Hid (∀ (X:World) (u1:Value) (o2:List (List ByteArray)) (a':Act),Only F W2 X→V8.heap.size≤X.heap.size→Boxed X Wa.heap.size 40 u1→(u1.ownBlock=u.ownBlock∨∃ b,u1.ownBlock=some b∧V8.heap.size≤b) →
       Kd.R PathK 37 X V2.heap.size (fun k=>(F k∨G k∨(V2.heap.size≤k∧k<V3.heap.size))∨(Value.slice Aq q.length cq).ownBlock=some k∨V8.heap.size≤k) u1 o2→chgR q1 o1 (pre++[(q,x)])=o2 →
       roundR (IC3 V3 Wa.heap.size V2.heap.size u0 q1 o1) (fun _ _ _ _=>False) HdF (pre++[(q,x)]) #[.slice Aq q.length cq,.agg (fc x A' c')] F G W W2 .normal a' X):=Lib.hid (by
      intro X u1 o2 a' hO hsX hu1 hat hR1 ho2
      have hb1:=Kd.R_bound hR1
      have h1lt:∀ k,u1.ownBlock=some k→k<X.heap.size:=Kd.R_lt hR1
      have h1F:∀ k,u1.ownBlock=some k→F k∨(W.heap.size≤k∧k<X.heap.size):=fun k hk=>by
       rcases hat with h | ⟨b',h,hb'⟩
       ·exact .inl (hFu k (h ▸ hk))
       ·rw [hk] at h
        injection h with h
        exact .inr ⟨by omega,h1lt k hk⟩
      refine ⟨fun k=>F k∨u1.ownBlock=some k,fun k=>G k∨(Value.slice Aq q.length cq).ownBlock=some k∨(W.heap.size≤k∧k<X.heap.size),hO,fun k hk=>hk.elim .inl (h1F k),fun k hk => ?_,?_,.inl hFo,fun k hk=>.inl (hF0 k hk),u1,hu1,fun k hk=>.inr hk,fun k hk => ?_,?_⟩
      ·rcases hk with hk | hk | hk
       ·exact .inl hk
       ·exact .inr (.inl ⟨_,rfl,hk⟩)
       ·exact .inr (.inr hk)
      ·exact (hIo3.trans HO2.out (K:=fun k=>k=Wa.heap.size∨u0.ownBlock=some k) (fun _ _ h=>h) (fun k hk e=>by omega)).trans hO (fun _ _ h=>h) (fun k hk h=>by
        rcases hFb k h with h | h | h
        ·exact .inl h
        ·exact .inr h
        ·omega)
      ·rcases hk with hk | hk
       ·exact hFb k hk
       ·rcases h1F k hk with h | h
        ·exact hFb k h
        ·exact .inr (.inr (by omega))
      ·rw [ho2]
       refine Kd.R_mono hb1 fun k hk => ?_
       rcases hk.1 with (h | h | h) | h | h
       ·exact .inl (.inl h)
       ·exact .inr (.inl (.inl h))
       ·exact .inr (.inr h)
       ·exact .inr (.inl (.inr (.inl h)))
       ·exact .inr (.inl (.inr (.inr ⟨by omega,hk.2.2.1⟩))))
     have cu:=hu8.cell
     have fu:=hu8.frozen
     have hcl:=chgR_len q1 o1 pre
     have hcntb:=HCB.out
     have hbe3:=HBB.out
     have hbe4:=HBA.out
     have hlenE:=congrArg List.length ho2
     rw [hlenE] at hcl
     cases b3
     ·have HO2E:Hid (chgR q1 o1 (pre++[(q,x)])=o3):=Lib.hid (by rw [chgR_snoc,if_neg (by rw [← HB3.out];decide),ho2])
      clear ho2 hlenE
      gi_wp2
      exact HEND.out _ _ _ _ (Only.of_below hb8 F) (Nat.le_refl _) hu8 (.inl rfl) (Kd.R_mono hR8 fun k hk=>.inl hk) HO2E.out
     ·have HO2E:Hid (chgR q1 o1 (pre++[(q,x)])=o3++[q]):=Lib.hid (by rw [chgR_snoc,if_pos (by rw [← HB3.out]),ho2])
      clear ho2 hlenE
      obtain ⟨u9,w9,hrun,hR9,hB9,hg9,hat9⟩:=append_pathC (w0:=V8) 40 V2.heap.size (fun k=>(F k∨G k∨(V2.heap.size≤k∧k<V3.heap.size))∨(Value.slice Aq q.length cq).ownBlock=some k∨V8.heap.size≤k) (fun k=>(Value.slice Aq q.length cq).ownBlock=some k) u o3 (.slice Aq q.length cq) q
       (Kd.R_lower (Kd.R_of_own (h1:=fun _=>rfl) (ok:=fun k=>(Value.slice Aq q.length cq).ownBlock=some k) (Kd.own_of_R hV8) fun k hk=>hk) (by omega)) (fun k hk=>⟨.inr (.inl hk),fun e=>hvh k hk (hFu k e.symm)⟩) (Kd.R_mono hR8 fun k hk=>.inl hk) (Below.refl _ _) (by omega) (fun k hk=>.inr (.inr hk)) (by omega)
      have hu9:Boxed w9 Wa.heap.size 40 u:=(hg9.block _ (Boxed.lt hu8) (Kd.R_ne hR8 hu8 (by decide))).trans hu8
      have c9:=hu9.cell
      have f9:=hu9.frozen
      have HRUN:=Lib.hid hrun
      have hgO:=Only.grown_of hg9
      have hs9:=hg9.size
      have hO9:Only F W2 (w9.setCell ⟨Wa.heap.size,0,none⟩ u9):=((Only.of_below hb8 F).trans hgO (K:=F) (fun _ _ h=>h) (fun k _ h=>hFu k h)).trans (Only.setCell w9 _ u9) (fun _ _ h=>h) (fun k _ h=>by rw [h];exact hFo)
      have hsX:V8.heap.size≤(w9.setCell ⟨Wa.heap.size,0,none⟩ u9).heap.size:=by simpa [World.setCell] using hs9
      have hRX:=Kd.R_mono (Kd.R_set (Kd.R_bound hR9) hu9 (by decide) 0 u9) fun k hk=>hk.1
      have huX:=hu9.set u9
      obtain ⟨A9,c9',rfl,_,_⟩:=Kd.R_reads hR9
      have HFIN:=Lib.hid (fun a'=>HEND.out _ _ _ a' hO9 hsX huX hat9 hRX HO2E.out)
      generalize (o3++[q]).length=N9 at *
      clear hrun hgO hR9 hB9 hg9 hO9 hat9 hRX huX hsX
      gi_wp2_with (gi_at_builtin;refine appendIn rfl (.tmp 80) (.tmp 82) 40 rfl _ _ _ rfl rfl HRUN.out ?_)
      exact HFIN.out _
   case hdone =>
    skip
    intro D3 F3 G3 Wc hD3 hI hK3
    obtain ⟨hIo3,hFo3,hF03,u3,hu,hFu3,hFb3,hR⟩:=hI
    obtain ⟨ll,hll⟩:∃ y,chgR q1 o1 (preF [] a)=y:=⟨_,rfl⟩
    have hlen:=chgR_len q1 o1 (preF [] a)
    rw [hll] at hR hlen
    have hCL:chgL a b=ll:=by unfold chgL;rw [HQ0.out,HQ1.out,HO1L.out];exact hll
    have hcb:=HCB.out
    have hca':=HCA.out
    have hbe3:=HBB.out
    have hbe4:=HBA.out
    have hpl:∀ x∈ll,x.length≤1099511627776:=fun x hx=>by
     rw [← hll] at hx
     rcases chgR_mem q1 o1 _ x hx with h | ⟨y,hy,rfl,_⟩
     ·rw [← HO1L.out] at h
      obtain ⟨y,hy,rfl⟩:=chgB_mem q0 _ x h
      have:=(HPB.out y hy).2
      simp only [List.length_nil] at this
      omega
     ·have:=(HPA.out y hy).2
      simp only [List.length_nil] at this
      omega
    have HCL:=Lib.hid hCL
    have hwc:=hb6w.trans (hIo3.below hb6w.size fun k hk e=>by rcases e with e | e;omega;have:=hult k e;omega)
    have hne3:=Kd.R_ne hR hu (by decide)
    have hdne:∀ {D:Nat} {W:World} (_:Wc.heap[D]? = some (.deferred (some []))),some D≠u3.ownBlock:=fun {D} _ h e=>by
     obtain ⟨_,inner,ho,_⟩:=hR
     obtain ⟨cells,hc⟩:=own_typed ho D e.symm
     rw [h] at hc
     cases hc
    have hK1c:=(hIo3.block D1 (by omega) (fun e=>by rcases e with e | e;omega;have:=hult _ e;omega)).trans HK1.out
    have hK2c:=(hIo3.block D2 (by omega) (fun e=>by rcases e with e | e;omega;exact hD2u _ e rfl)).trans HK2.out
    obtain ⟨A9,c9,rfl,hc9,_⟩:=Kd.R_reads hR
    have HS:=Lib.hid (sort_paths A9 c9 ll (by omega) hR hpl)
    have n1:=hdne (W:=Wc) hK1c
    have n2:=hdne (W:=Wc) hK2c
    have n3:=hdne (W:=Wc) hK3
    have cu:=hu.cell
    have hult3:∀ k,(Value.slice A9 ll.length c9).ownBlock=some k→w.heap.size≤k:=fun k hk=>by have:=((Kd.R_bound hR).1 k hk).2.1;omega
    clear hR hll hpl hCL hdne
    go_wp2_with fail
    refine HS.out.mono ?_
    rintro e wS ⟨rfl,s,hperm,hsort,hC,hO⟩
    have hsl:=hperm.length_eq
    have huS:Boxed wS Wa.heap.size 40 (.slice A9 ll.length c9):=Boxed_only hu hO fun e=>hne3 e
    have cs:=huS.cell
    have hK1S:=(hO.block D1 (Array.getElem?_eq_some_iff.1 hK1c).1 n1).trans hK1c
    have hK2S:=(hO.block D2 (Array.getElem?_eq_some_iff.1 hK2c).1 n2).trans hK2c
    have hK3S:=(hO.block D3 (Array.getElem?_eq_some_iff.1 hK3).1 n3).trans hK3
    have hwS:=hwc.trans (hO.below hwc.size fun k hk e=>by have:=hult3 k e.symm;omega)
    have HC:=Lib.hid hC
    rw [← hsl] at cs ⊢
    have HP:=Lib.hid hperm
    have HSO:=Lib.hid hsort
    clear hC HS cu hK1c hK2c hK3 hperm hsort hsl
    have hd12:D2≠D3∧D1≠D3∧D1≠D2:=by omega
    have hK2T:=(World.putObj_heap_other (o:=.deferred none) hd12.1).trans hK2S
    have hK1T:=(World.putObj_heap_other (o:=.deferred none) hd12.2.2).trans ((World.putObj_heap_other (o:=.deferred none) hd12.2.1).trans hK1S)
    have hbF:=bput (bput (bput hwS (k:=D3) (by omega) (.deferred none)) (k:=D2) (by omega) (.deferred none)) (k:=D1) (by omega) (.deferred none)
    have HCF:=Lib.hid (HC.out (((wS.putObj D3 (.deferred none)).putObj D2 (.deferred none)).putObj D1 (.deferred none)) fun k hk=>(World.putObj_heap_other fun e=>hk _ (e ▸ hK1S)).trans ((World.putObj_heap_other fun e=>hk _ (e ▸ hK2S)).trans (World.putObj_heap_other fun e=>hk _ (e ▸ hK3S))))
    clear HC
    go_wp2_with fail
    all_goals exact ⟨by simp,.inl ⟨_,_,rfl,run_takeDeferred hK3S,by simp,.inl ⟨_,_,rfl,run_takeDeferred hK2T,by simp,.inl ⟨_,_,rfl,run_takeDeferred hK1T,⟨_,results_tmp2 rfl _ _ _,A9,c9,s,rfl,by have:=HP.out.length_eq;omega,⟨by rw [HCL.out];exact HP.out,HSO.out⟩,HCF.out,hbF⟩⟩⟩⟩⟩
end Go.Proofs.YtdnhjnlhmfajnaaGreatDoor.G
end
end
