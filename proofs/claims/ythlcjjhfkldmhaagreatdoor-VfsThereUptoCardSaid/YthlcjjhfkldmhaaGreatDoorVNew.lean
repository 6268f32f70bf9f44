import Derived.WideMake
import Derived.Carry
import Derived.MapKept
import Derived.Test.YthlcjjhfkldmhaaGreatDoorVMem
import Derived.Test.YthlcjjhfkldmhaaGreatDoorVRealF
import Derived.Test.YthlcjjhfkldmhaaGreatDoorVHd
import Derived.Test.YthlcjjhfkldmhaaGreatDoorKit
import Derived.Test.YthlcjjhfkldmhaaGreatDoorSq
import Derived.Test.YthlcjjhfkldmhaaGreatDoorPNormal
import Derived.BigQuiet
set_option linter.unusedVariables false
set_option linter.unusedSimpArgs false
section
namespace Go.Proofs.YthlcjjhfkldmhaaGreatDoor.G
open Go.RowKit Go.Shelf Go.Lib Go.Proofs.YthlcjjhfkldmhaaGreatDoorW.PrintWords
set_option linter.unusedVariables false
def Faulted (W:World) (m:Nat) (l:List Int):Prop:=∃ es clock,W.heap[m]? = some (.map es clock)∧(∀ x∈es.toList,∃ k,x.key=.int .i64 k∧x.val=.bool true)∧∀ n:Int,(∃ x∈es.toList,x.key=.int .i64 n)↔n∈l
theorem Faulted.mv {W W':World} {m:Nat} {l:List Int} (h:Faulted W m l) (hm:W'.heap[m]? = W.heap[m]?):Faulted W' m l:=by
 obtain ⟨es,clock,h1,h2⟩:=h
 exact ⟨es,clock,hm.trans h1,h2⟩
theorem Faulted.lt {W:World} {m:Nat} {l:List Int} (h:Faulted W m l):m<W.heap.size:=by
 obtain ⟨es,clock,h1,h2⟩:=h
 rcases Nat.lt_or_ge m W.heap.size with hg | hg
 ·exact hg
 ·rw [Array.getElem?_eq_none hg] at h1;cases h1
theorem fault_find (n:Int):∀ (es:List MapEntry) (i:Nat),(∀ x∈es,∃ k,x.key=.int .i64 k∧x.val=.bool true) →
  (∃ j,Instr.findNow (.int .i64) (.int .i64 n) es i=some (some (i+j,.bool true))∧∃ x,es[j]? = some x∧x.key=.int .i64 n)∨(Instr.findNow (.int .i64) (.int .i64 n) es i=some none∧∀ x∈es,x.key ≠ .int .i64 n)
 | [],i,_=>.inr ⟨rfl,fun x hx=>by cases hx⟩
 | x :: es,i,h=>by
  obtain ⟨k,hk,hv⟩:=h x List.mem_cons_self
  by_cases he:n=k
  ·subst he
   have hs:Instr.sameNow (.int .i64) (.int .i64 n) x.key=some true:=by rw [hk];simp [Instr.sameNow]
   exact .inl ⟨0,by simp only [Instr.findNow,hs,hv];rfl,x,rfl,hk⟩
  ·have hs:Instr.sameNow (.int .i64) (.int .i64 n) x.key=some false:=by rw [hk];simp [Instr.sameNow,he]
   rcases fault_find n es (i+1) (fun y hy=>h y (List.mem_cons_of_mem _ hy)) with ⟨j,h1,y,h2,h3⟩ | ⟨h1,h2⟩
   ·exact .inl ⟨j+1,by simp only [Instr.findNow,hs];rw [h1,show i+1+j=i+(j+1) by omega],y,h2,h3⟩
   ·refine .inr ⟨by simp only [Instr.findNow,hs];exact h1,fun y hy => ?_⟩
    rcases List.mem_cons.1 hy with rfl | hy
    ·rw [hk]
     intro e
     injection e with _ e
     exact he e.symm
    ·exact h2 y hy
theorem fault_lookup {W:World} {m:Nat} {l:List Int} (h:Faulted W m l) (n:Int) :
  (Instr.lookup 66 (.map (some m)) (.int .i64 n) false).run Tryz.prog W=.ok (.bool (decide (n∈l))) W:=by
 obtain ⟨es,clock,hb,hs,hl⟩:=h
 have hc:∀ b,(Instr.checkKey b 10000 3 (.int .i64 n)).run Tryz.prog W=.ok () W:=fun b=>MapKept.run_checkKey Tryz.underlying3 (by simp [MapKept.IsKey]) b 9999
 have hz:(zeroValue 4).run Tryz.prog W=.ok (.bool false) W:=by kernel_rfl
 rcases fault_find n es.toList 0 hs with ⟨j,hf,x,hx,hk⟩ | ⟨hf,hn⟩
 ·have hm:n∈l:=(hl n).1 ⟨x,List.mem_of_getElem? hx,hk⟩
  simp [Instr.lookup,run_underlying Tryz.underlying66,MapKept.run_getObj_map hb,hc,MapKept.run_findKey Tryz.underlying3 hf,Result.andThen,hm]
 ·have hm:n ∉ l:=fun h=>by
   obtain ⟨x,hx,hk⟩:=(hl n).2 h
   exact hn x hx hk
  simp [Instr.lookup,run_underlying Tryz.underlying66,MapKept.run_getObj_map hb,hc,MapKept.run_findKey Tryz.underlying3 hf,Result.andThen,hm,hz]
theorem mem_modify {es:Array MapEntry} {j:Nat} {f:MapEntry→MapEntry} {y:MapEntry} (h:y∈(es.modify j f).toList):y∈es.toList∨∃ z∈es.toList,y=f z:=by
 obtain ⟨i,hi⟩:=List.getElem?_of_mem h
 rw [Array.getElem?_toList,Array.getElem?_modify] at hi
 by_cases hij:j=i
 ·rw [if_pos hij] at hi
  cases hz:es[i]? with
  | none=>rw [hz] at hi;cases hi
  | some z =>
   rw [hz] at hi
   injection hi with hi
   rw [← Array.getElem?_toList] at hz
   exact .inr ⟨z,List.mem_of_getElem? hz,hi.symm⟩
 ·rw [if_neg hij,← Array.getElem?_toList] at hi
  exact .inl (List.mem_of_getElem? hi)
theorem fault_update {W:World} {m:Nat} {l:List Int} (h:Faulted W m l) (n:Int) :
  ∃ o,(Instr.mapUpdate 66 (.map (some m)) (.int .i64 n) (.bool true)).run Tryz.prog W=.ok () (W.putObj m o)∧Faulted (W.putObj m o) m (n :: l):=by
 have hlt:=h.lt
 obtain ⟨es,clock,hb,hs,hl⟩:=h
 have hc:∀ b,(Instr.checkKey b 10000 3 (.int .i64 n)).run Tryz.prog W=.ok () W:=fun b=>MapKept.run_checkKey Tryz.underlying3 (by simp [MapKept.IsKey]) b 9999
 rcases fault_find n es.toList 0 hs with ⟨j,hf,x,hx,hk⟩ | ⟨hf,hn⟩
 ·rw [Nat.zero_add] at hf
  have hks:=MapKept.run_keyThatStays (P:=Tryz.prog) (w:=W) (d:=.int .i64) (k:=.int .i64 n) (by simp [MapKept.IsKey])
  have hxa:es[j]? = some x:=by rw [← Array.getElem?_toList];exact hx
  have hj:j<es.size:=(Array.getElem?_eq_some_iff.1 hxa).1
  refine ⟨.map (es.modify j fun e=>{e with key:=.int .i64 n,val:=.bool true}) clock,?_,?_⟩
  ·simp [Instr.mapUpdate,run_underlying Tryz.underlying66,MapKept.run_getObj_map hb,hc,MapKept.run_findKey Tryz.underlying3 hf,hxa,hk,hks,MapKept.run_setObj_map _ hb,Result.andThen,World.putObj]
  ·refine ⟨_,clock,World.putObj_heap_same hlt,?_,?_⟩
   ·intro y hy
    rcases mem_modify hy with hy | ⟨z,hz,rfl⟩
    ·exact hs y hy
    ·exact ⟨n,rfl,rfl⟩
   ·intro k
    rw [List.mem_cons,← hl k]
    constructor
    ·rintro ⟨y,hy,hk2⟩
     rcases mem_modify hy with hy | ⟨z,hz,rfl⟩
     ·exact .inr ⟨y,hy,hk2⟩
     ·injection hk2 with _ hk2
      exact .inl hk2.symm
    ·have hme:({x with key:=.int .i64 n,val:=.bool true}:MapEntry)∈(es.modify j fun e=>{e with key:=.int .i64 n,val:=.bool true}).toList:=by
      have h1:(es.modify j fun e=>{e with key:=.int .i64 n,val:=.bool true})[j]? = some {x with key:=.int .i64 n,val:=.bool true}:=by
       rw [Array.getElem?_modify,if_pos rfl,hxa];rfl
      rw [← Array.getElem?_toList] at h1
      exact List.mem_of_getElem? h1
     rintro (rfl | ⟨y,hy,hk2⟩)
     ·exact ⟨_,hme,rfl⟩
     ·obtain ⟨i,hi⟩:=List.getElem?_of_mem hy
      by_cases hij:j=i
      ·subst hij
       have e:y=x:=by
        rw [Array.getElem?_toList,hxa] at hi
        injection hi with hi
        exact hi.symm
       subst e
       rw [hk] at hk2
       injection hk2 with _ hk2
       subst hk2
       exact ⟨_,hme,rfl⟩
      ·refine ⟨y,?_,hk2⟩
       have h1:(es.modify j fun e=>{e with key:=.int .i64 n,val:=.bool true})[i]? = some y:=by
        rw [Array.getElem?_modify,if_neg hij,← Array.getElem?_toList]
        exact hi
       rw [← Array.getElem?_toList] at h1
       exact List.mem_of_getElem? h1
 ·refine ⟨.map (es.push {key:=.int .i64 n,val:=.bool true,born:=clock}) (clock+1),?_,?_⟩
  ·simp [Instr.mapUpdate,run_underlying Tryz.underlying66,MapKept.run_getObj_map hb,hc,MapKept.run_findKey Tryz.underlying3 hf,MapKept.run_setObj_map _ hb,Result.andThen,World.putObj]
  ·refine ⟨_,clock+1,World.putObj_heap_same hlt,?_,?_⟩
   ·intro y hy
    rw [Array.toList_push,List.mem_append,List.mem_singleton] at hy
    rcases hy with hy | rfl
    ·exact hs y hy
    ·exact ⟨n,rfl,rfl⟩
   ·intro k
    rw [Array.toList_push,List.mem_cons,← hl k]
    constructor
    ·rintro ⟨y,hy,hk⟩
     rw [List.mem_append,List.mem_singleton] at hy
     rcases hy with hy | rfl
     ·exact .inr ⟨y,hy,hk⟩
     ·injection hk with _ hk
      exact .inl hk.symm
    ·rintro (rfl | ⟨y,hy,hk⟩)
     ·exact ⟨_,List.mem_append.2 (.inr (List.mem_singleton.2 rfl)),rfl⟩
     ·exact ⟨y,List.mem_append.2 (.inl hy),hk⟩
end Go.Proofs.YthlcjjhfkldmhaaGreatDoor.G
end
section
section
namespace Go.Proofs.YthlcjjhfkldmhaaGreatDoor.G
open Go.RowKit Go.Lib Go.Proofs.YthlcjjhfkldmhaaGreatDoorW.PrintWords Go.Proofs.YthlcjjhfkldmhaaGreatDoorW.PrintLast
set_option linter.unusedVariables false
set_option linter.unusedSimpArgs false
def fsCells (t:File) (A:Option Addr) (c:Nat) (v:Value) (m:Nat):Array Value:=#[.string t.name,.int .u8 t.kind,.string t.data,.slice A t.files.length c,v,.map (some m)]
def FsAt (w:World) (g:Nat) (O:Nat→Prop) (tb:Option Nat) (f:FsV):Prop:=∃ (A:Option Addr) (c:Nat) (v:Value) (m lo hi:Nat),
 w.heap[g]? = some (.cells (fsCells f.tree A c v m) 68 (0,0))∧f.tree.files.length≤c∧Iv lo hi w (fun W=>FileK.C W A f.tree.files.length f.tree.files)∧(∀ k,lo≤k→k<hi→O k∧k≠g∧tb≠some k) ∧
 CallK.R 79 w 0 O v f.trace∧v.ownBlock=tb∧Faulted w m f.faults∧O m∧∀ k,O k→k<w.heap.size
theorem FsAt.keep {w w':World} {g:Nat} {O:Nat→Prop} {tb:Option Nat} {f:FsV} (h:FsAt w g O tb f) (hk:∀ k,k=g∨O k→w'.heap[k]? = w.heap[k]?) (hs:w.heap.size≤w'.heap.size):FsAt w' g O tb f:=by
 obtain ⟨A,c,v,m,lo,hi,h1,h2,h3,h4,h5,h6,h7,h8,h9⟩:=h
 exact ⟨A,c,v,m,lo,hi,(hk g (.inl rfl)).trans h1,h2,h3.mv fun k a b=>hk k (.inr (h4 k a b).1),h4,Kd.R_move h5 fun k a=>hk k (.inr a),h6,h7.mv (hk m (.inr h8)),h8,fun k a=>Nat.lt_of_lt_of_le (h9 k a) hs⟩
theorem FsAt.lt {w:World} {g:Nat} {O:Nat→Prop} {tb:Option Nat} {f:FsV} (h:FsAt w g O tb f):g<w.heap.size:=by
 obtain ⟨A,c,v,m,lo,hi,h1,_⟩:=h
 exact blk_lt h1
theorem FsAt.below {w w':World} {g:Nat} {O:Nat→Prop} {tb:Option Nat} {f:FsV} (h:FsAt w g O tb f) (hb:Below w.heap.size w w'):FsAt w' g O tb f:=by
 have hl:=h.lt
 have h9:∀ k,O k→k<w.heap.size:=by
  obtain ⟨A,c,v,m,lo,hi,_,_,_,_,_,_,_,_,h9⟩:=h
  exact h9
 exact h.keep (fun k hk=>hb.block k (hk.elim (fun e=>e ▸ hl) (h9 k))) hb.size
theorem FsAt.lts {w:World} {g:Nat} {O:Nat→Prop} {tb:Option Nat} {f:FsV} (h:FsAt w g O tb f):∀ k,O k→k<w.heap.size:=by
 obtain ⟨A,c,v,m,lo,hi,_,_,_,_,_,_,_,_,h9⟩:=h
 exact h9
theorem FsAt.mono {w:World} {g:Nat} {O O':Nat→Prop} {tb:Option Nat} {f:FsV} (h:FsAt w g O tb f) (hO:∀ k,O k→O' k) (hl:∀ k,O' k→k<w.heap.size):FsAt w g O' tb f:=by
 obtain ⟨A,c,v,m,lo,hi,h1,h2,h3,h4,h5,h6,h7,h8,h9⟩:=h
 exact ⟨A,c,v,m,lo,hi,h1,h2,h3,fun k a b=>⟨hO k (h4 k a b).1,(h4 k a b).2⟩,Kd.R_mono h5 hO,h6,h7,hO m h8,hl⟩
theorem Faulted.ne {W:World} {m g:Nat} {l:List Int} {cs:Array Value} {t:TypeId} (h:Faulted W m l) (hb:W.heap[g]? = some (.cells cs t (0,0))):m≠g:=by
 obtain ⟨es,clock,h1,_⟩:=h
 rintro rfl
 rw [h1] at hb
 cases hb
theorem Faulted.iff {W:World} {m:Nat} {l l':List Int} (h:Faulted W m l) (hi:∀ n,n∈l↔n∈l'):Faulted W m l':=by
 obtain ⟨es,clock,h1,h2,h3⟩:=h
 exact ⟨es,clock,h1,h2,fun n=>(h3 n).trans (hi n)⟩
theorem Faulted.made (w:World):Faulted (w.alloc (.map #[] 0)) w.heap.size []:=⟨#[],0,World.alloc_heap_new w _,fun x hx=>by simp at hx,fun n=>by simp⟩
end Go.Proofs.YthlcjjhfkldmhaaGreatDoor.G
end
section
namespace Go.Proofs.YthlcjjhfkldmhaaGreatDoor.G
open Go.RowKit Go.Lib Go.Proofs.YthlcjjhfkldmhaaGreatDoorW.PrintWords Go.Proofs.YthlcjjhfkldmhaaGreatDoorW.PrintLast
set_option linter.unusedVariables false
set_option linter.unusedSimpArgs false
def bf (n m:Nat):Array Bool:=((List.range n).map (fun j=>m.testBit j)).toArray
theorem store4_box6 {W:World} {g:Nat} {a b c d x y:Value} {t:TypeId} (h:W.heap[g]? = some (.cells #[a,b,c,d,x,y] t (0,0))) (v0 v1 v2 v3:Value) :
  ((((W.setCell ⟨g,0,none⟩ v0).setCell ⟨g,1,none⟩ v1).setCell ⟨g,2,none⟩ v2).setCell ⟨g,3,none⟩ v3).heap[g]? = some (.cells #[v0,v1,v2,v3,x,y] t (0,0)) :=
 blk_put (blk_put (blk_put (blk_put h 0 v0 rfl) 1 v1 rfl) 2 v2 rfl) 3 v3 rfl
theorem Only.of_belowV {X Y:World} (h:Below X.heap.size X Y) (F:Nat→Prop):Only F X Y:=⟨h.os,h.tape,h.output,h.size,fun k hk _=>h.block k hk⟩
theorem only4 (W:World) (g:Nat) (v0 v1 v2 v3:Value):Only (fun k=>k=g) W ((((W.setCell ⟨g,0,none⟩ v0).setCell ⟨g,1,none⟩ v1).setCell ⟨g,2,none⟩ v2).setCell ⟨g,3,none⟩ v3) :=
 (((Only.setCell W ⟨g,0,none⟩ v0).trans (Only.setCell _ ⟨g,1,none⟩ v1) (fun _ _ h=>h) (fun _ _ h=>h)).trans (Only.setCell _ ⟨g,2,none⟩ v2) (fun _ _ h=>h) (fun _ _ h=>h)).trans (Only.setCell _ ⟨g,3,none⟩ v3) (fun _ _ h=>h) (fun _ _ h=>h)
set_option maxHeartbeats 8000000 in
set_option maxRecDepth 100000 in
theorem put_calls_fs (w:World) (g:Nat) (O:Nat→Prop) (tb:Option Nat) (f:FsV) (Ap:Option Addr) (cp:Nat) (p:List ByteArray) (s:File) (As:Option Addr) (cs:Nat) (hfs:FsAt w g O tb f) (hbt:f.tree.bulk≤1000000000) (hp:Kd.C Kd.string w Ap p.length p) (hcp:p.length≤cp) (hpl:p.length≤1000000000) (hn:∀ n∈p,n.size≤1000000000) (hs:FileK.C w As s.files.length s.files) (hcs:s.files.length≤cs) (hbs:s.bulk≤1000000000) :
  Calls Tryz.prog 112 #[.pointer (some ⟨g,0,none⟩),.slice Ap p.length cp,.agg (fc s As cs)] w fun e w'=>e=.returned (.int .i64 (putV f.tree p s).2)∧FsAt w' g (fun k=>O k∨w.heap.size≤k∧k<w'.heap.size) tb {f with tree:=(putV f.tree p s).1}∧Only (fun k=>k=g) w w':=by
 have HFS0:=Lib.hid hfs
 obtain ⟨A,c,v,m,lo,hi,hbox,hle,hiv,hsep,htr,htb,hfl,hOm,hOlt⟩:=hfs
 unfold fsCells at hbox
 have hb0:=below_alloc (Below.refl w.heap.size w) (.cells (fc s As cs) 25)
 have hgl:=blk_lt hbox
 have HS:=Lib.hid (fun W (h:Below w.heap.size w W)=>hiv W fun k h1 h2=>h.block k (hOlt k (hsep k h1 h2).1))
 have HFSK:=Lib.hid (And.intro hle (And.intro hiv (And.intro hsep (And.intro htr (And.intro htb (And.intro hfl (And.intro hOm hOlt)))))))
 have I:=Lib.hid (Hd.base hb0 (by first | exact Nat.le_refl _ | exact Below.size hb0))
 replace I:=Lib.hid (Hd.and I.out (Hd.box (blk_new w (.cells (fc s As cs) 25))))
 replace I:=Lib.hid (Hd.and I.out (Hd.box ((hb0.block g hgl).trans hbox)))
 replace I:=Lib.hid (Hd.and I.out (Hd.reads (Kd.C_below hp hb0)))
 replace I:=Lib.hid (Hd.and I.out (Hd.reads (Kd.C_below hs hb0)))
 obtain ⟨⟨u,k⟩,hu⟩:∃ r,putA f.tree p s=r:=⟨_,rfl⟩
 have HU:=Lib.hid hu
 clear hu hiv hsep htr hfl hOm hOlt hs hp hbox htb
 go_enter Tryz.func112,Tryz.ntmps112
 obtain ⟨ls0,ls1,ls2,ls3⟩:=c4A I.out.now.2.2.2.1
 go_wp2_with fail
 clear ls0 ls1 ls2 ls3
 generalize (w.alloc (.cells (fc s As cs) 25))=W0 at *
 refine start_ (n:=13) (S:=fun w'=>w'.heap[g]? = some (.cells #[.string f.tree.name,.int .u8 f.tree.kind,.string f.tree.data,.slice A f.tree.files.length c,v,.map (some m)] 68 (0,0))∧w'.heap[w.heap.size]? = some (.cells (fc s As cs) 25 (0,0))) (ds:=[11]) (bf 13 0) (by kernel_rfl) rfl rfl ⟨(I.out _ (bdrew (Below.refl W0.heap.size W0))).2.2.1,(I.out _ (bdrew (Below.refl W0.heap.size W0))).2.2.2.1⟩ (fun hHeld => ?_)
 refine pA 0 10 (bf 13 1) ?_
 refine pA 1 11 (bf 13 3) ?_
 refine pA 2 12 (bf 13 7) ?_
 refine pA 4 14 (bf 13 23) ?_
 refine tA 3 13 (bf 13 31) hHeld ?_ (hy:=by
  rintro w' ⟨s0,s1⟩
  have q0:=cell_of (j:=0) s0 rfl
  have q1:=cell_of (j:=1) s0 rfl
  have q2:=cell_of (j:=2) s0 rfl
  have q3:=cell_of (j:=3) s0 rfl
  have q4:=cell_of (j:=4) s0 rfl
  have q5:=cell_of (j:=5) s0 rfl
  go_simp
  with_reducible rfl)
 refine tA 5 15 (bf 13 63) hHeld ?_ (hy:=by
  rintro w' ⟨s0,s1⟩
  have q0:=cell_of (j:=0) s1 rfl
  have q1:=cell_of (j:=1) s1 rfl
  have q2:=cell_of (j:=2) s1 rfl
  have q3:=cell_of (j:=3) s1 rfl
  go_simp
  with_reducible rfl)
 refine join_ (σ:=(Option Addr×Nat×Nat×Nat)×Nat) 2 (bf 13 2047) (fun s=>match s with | ((A1,c1,lo1,hi1),gd)=>[(16,.tuple #[.agg (fc u A1 c1),.int .i64 k]),(9,.tuple #[.agg (fc u A1 c1),.int .i64 k]),(17,.agg (fc u A1 c1)),(18,.int .i64 k),(7,.pointer (some ⟨gd,0,none⟩))]) (fun s W=>match s with | ((A1,c1,lo1,hi1),gd)=>Below W0.heap.size W0 W∧W0.heap.size≤gd∧W.heap[gd]? = some (.cells zC 25 (0,0))∧u.files.length≤c1∧Iv lo1 hi1 W (fun W=>FileK.C W A1 u.files.length u.files)∧W0.heap.size≤lo1∧hi1≤W.heap.size∧(gd<lo1∨hi1≤gd)) ?_ ?_
 rotate_left
 ·intro hc
  refine two_ (i:=6) (j:=10) (Ni:=some 16) (Nj:=some 7) (bf 13 127) (bf 13 1087) rfl rfl rfl rfl (by kernel_rfl) (by decide) (by decide) (fun K hK => ?_) (fun K hK => ?_)
  ·refine gA Tryz.func115 #[.agg (fc f.tree A c),.slice Ap p.length cp,.agg (fc s As cs)] ?_
   refine ((show Calls Tryz.prog 115 #[.agg (fc f.tree A c),.slice Ap p.length cp,.agg (fc s As cs)] _ _ from putS f.tree s A As c cs Ap cp p _ (HS.out _ ((I.out _ (bdrew (Below.refl W0.heap.size W0))).2.2.2.2)) hle hbt (I.out _ (bdrew (Below.refl W0.heap.size W0))).2.1 hcp hpl (I.out _ (bdrew (Below.refl W0.heap.size W0))).1 hcs hbs hn)).mono ?_
   rw [HU.out]
   rintro e w5 ⟨⟨A1,c1,rfl,hc1,hC1⟩,hq5⟩
   refine ⟨_,rfl,?_⟩
   refine hK.out _ _ (⟨(I.out _ ((bdrew (Below.refl W0.heap.size W0)).trans hq5)).2.2.1,(I.out _ ((bdrew (Below.refl W0.heap.size W0)).trans hq5)).2.2.2.1⟩) (fun _ => ?_)
   refine nA 16 ?_
   refine pA 7 9 (bf 13 255) ?_
   refine pA 8 17 (bf 13 511) ?_
   refine pA 9 18 (bf 13 1023) ?_
   refine eA 10 7 (bf 13 2047) (fun K hK => ?_)
   refine vA ?_
   refine hK.out _ _ (⟨(I.out _ (below_alloc ((bdrew (Below.refl W0.heap.size W0)).trans hq5) _)).2.2.1,(I.out _ (below_alloc ((bdrew (Below.refl W0.heap.size W0)).trans hq5) _)).2.2.2.1⟩) (fun _ => ?_)
   refine jA (hc ((A1,c1,W0.drew.heap.size,w5.heap.size),w5.heap.size) _ (⟨below_alloc ((bdrew (Below.refl W0.heap.size W0)).trans hq5) _,((bdrew (Below.refl W0.heap.size W0)).trans hq5).size,blk_new w5 _,hc1,Iv.mv hC1 fun k _ h2=>(below_alloc (Below.refl w5.heap.size w5) _).block k h2,(bdrew (Below.refl W0.heap.size W0)).size,(below_alloc (Below.refl w5.heap.size w5) _).size,.inr (Nat.le_refl _)⟩))
  ·refine vA ?_
   refine hK.out _ _ (⟨(I.out _ (below_alloc (bdrew (Below.refl W0.heap.size W0)) (.cells zC 25))).2.2.1,(I.out _ (below_alloc (bdrew (Below.refl W0.heap.size W0)) (.cells zC 25))).2.2.2.1⟩) (fun _ => ?_)
   refine nA 7 ?_
   refine eA 6 16 (bf 13 1151) (fun K hK => ?_)
   refine gA Tryz.func115 #[.agg (fc f.tree A c),.slice Ap p.length cp,.agg (fc s As cs)] ?_
   refine ((show Calls Tryz.prog 115 #[.agg (fc f.tree A c),.slice Ap p.length cp,.agg (fc s As cs)] _ _ from putS f.tree s A As c cs Ap cp p _ (HS.out _ ((I.out _ (below_alloc (bdrew (Below.refl W0.heap.size W0)) (.cells zC 25))).2.2.2.2)) hle hbt (I.out _ (below_alloc (bdrew (Below.refl W0.heap.size W0)) (.cells zC 25))).2.1 hcp hpl (I.out _ (below_alloc (bdrew (Below.refl W0.heap.size W0)) (.cells zC 25))).1 hcs hbs hn)).mono ?_
   rw [HU.out]
   rintro e w5 ⟨⟨A1,c1,rfl,hc1,hC1⟩,hq5⟩
   refine ⟨_,rfl,?_⟩
   refine hK.out _ _ (⟨(I.out _ ((below_alloc (bdrew (Below.refl W0.heap.size W0)) (.cells zC 25)).trans (hq5.mono (below_alloc (Below.refl W0.drew.heap.size W0.drew) (.cells zC 25)).size))).2.2.1,(I.out _ ((below_alloc (bdrew (Below.refl W0.heap.size W0)) (.cells zC 25)).trans (hq5.mono (below_alloc (Below.refl W0.drew.heap.size W0.drew) (.cells zC 25)).size))).2.2.2.1⟩) (fun _ => ?_)
   refine nA 16 ?_
   refine pA 7 9 (bf 13 1279) ?_
   refine pA 8 17 (bf 13 1535) ?_
   refine pA 9 18 (bf 13 2047) ?_
   refine jA (hc ((A1,c1,(W0.drew.alloc (.cells zC 25)).heap.size,w5.heap.size),W0.heap.size) _ (⟨((below_alloc (bdrew (Below.refl W0.heap.size W0)) (.cells zC 25)).trans (hq5.mono (below_alloc (Below.refl W0.drew.heap.size W0.drew) (.cells zC 25)).size)),Nat.le_refl _,(hq5.block _ (blk_lt (blk_new W0.drew (.cells zC 25)))).trans (blk_new W0.drew (.cells zC 25)),hc1,hC1,(below_alloc (bdrew (Below.refl W0.heap.size W0)) (.cells zC 25)).size,Nat.le_refl _,.inl (blk_lt (blk_new W0.drew (.cells zC 25)))⟩))
 ·rintro ⟨⟨A1,c1,lo1,hi1⟩,gd⟩ W hF
  refine uA ?_
  obtain ⟨hbW,hgd,hzz,hc1,hIV,hlo1,hhi1,hsp⟩:=hF
  have hHeld:=(show W.heap[g]? = some (.cells #[.string f.tree.name,.int .u8 f.tree.kind,.string f.tree.data,.slice A f.tree.files.length c,v,.map (some m)] 68 (0,0))∧W.heap[w.heap.size]? = some (.cells (fc s As cs) 25 (0,0)) from ⟨(I.out _ hbW).2.2.1,(I.out _ hbW).2.2.2.1⟩)
  refine last_ (i:=11) (N:=none) (bf 13 4095) rfl rfl (by kernel_rfl) (by decide) (fun K hK => ?_)
  obtain ⟨zc0,zc1,zc2,zc3⟩:=c4A hzz
  obtain ⟨zu0,zu1,zu2,zu3⟩:=u4A hzz
  refine sA ?_
  refine hK.out _ _ ?_
  refine pA 12 8 (bf 13 8191) ?_
  refine done_ (by kernel_rfl) ?_
  have hq6:=store4_below hbW (g:=gd) hgd (.string u.name) (.int .u8 u.kind) (.string u.data) (.slice A1 u.files.length c1)
  have hd6:=store4_box hzz (.string u.name) (.int .u8 u.kind) (.string u.data) (.slice A1 u.files.length c1)
  have hIV6:=hIV.mv (w':=((((W.setCell ⟨gd,0,none⟩ (.string u.name)).setCell ⟨gd,1,none⟩ (.int .u8 u.kind)).setCell ⟨gd,2,none⟩ (.string u.data)).setCell ⟨gd,3,none⟩ (.slice A1 u.files.length c1))) fun k h1 h2=>store4_other W (g:=gd) (by omega) _ _ _ _
  have hs6:((((W.setCell ⟨gd,0,none⟩ (.string u.name)).setCell ⟨gd,1,none⟩ (.int .u8 u.kind)).setCell ⟨gd,2,none⟩ (.string u.data)).setCell ⟨gd,3,none⟩ (.slice A1 u.files.length c1)).heap.size=W.heap.size:=by simp [World.setCell]
  have hhi6:hi1≤((((W.setCell ⟨gd,0,none⟩ (.string u.name)).setCell ⟨gd,1,none⟩ (.int .u8 u.kind)).setCell ⟨gd,2,none⟩ (.string u.data)).setCell ⟨gd,3,none⟩ (.slice A1 u.files.length c1)).heap.size:=by omega
  replace I:=Lib.hid (Hd.mv I.out hq6)
  replace I:=Lib.hid (Hd.and I.out (Hd.box (hd6)))
  clear zc0 zc1 zc2 zc3 zu0 zu1 zu2 zu3 hzz hHeld hK hd6 hs6 hIV hhi1 hsp
  generalize ((((W.setCell ⟨gd,0,none⟩ (.string u.name)).setCell ⟨gd,1,none⟩ (.int .u8 u.kind)).setCell ⟨gd,2,none⟩ (.string u.data)).setCell ⟨gd,3,none⟩ (.slice A1 u.files.length c1))=W6 at *
  have hbw6:=I.out.now.2.2.2.2.2
  have HFS6:=Lib.hid (HFS0.out.below hbw6)
  have hs6:=hbw6.size
  have hs0:=Below.size hb0
  have hl0:w.heap.size≤lo1:=by omega
  by_cases hk:k=0
  rotate_left
  ·skip
   have k1:(k == 0)=false:=beq_eq_false_iff_ne.2 hk
   have HPV:=Lib.hid (show putV f.tree p s=(f.tree,k) from by unfold putV;rw [HU.out];exact if_neg hk)
   clear hk
   go_wp2_with fail
   go_ret
   rw [HPV.out]
   exact ⟨rfl,HFS6.out.mono (fun k h=>.inl h) (fun k h=>h.elim (fun h=>HFS6.out.lts k h) fun h=>h.2),Only.of_belowV hbw6 _⟩
  ·skip
   subst hk
   have k1:((0:Int) == 0)=true:=rfl
   have HPV:=Lib.hid (show putV f.tree p s=(u,0) from by unfold putV;rw [HU.out];exact if_pos rfl)
   have HG6:=Lib.hid I.out.now.2.2.2.1
   have HIV6:=Lib.hid hIV6
   clear hIV6
   obtain ⟨lu0,lu1,lu2,lu3⟩:=c4A I.out.now.1
   obtain ⟨zg0,zg1,zg2,zg3⟩:=c4A HG6.out
   obtain ⟨ug0,ug1,ug2,ug3⟩:=u4A HG6.out
   go_wp2_with fail
   go_ret
   rw [HPV.out]
   have hsz:((((W6.setCell ⟨g,0,none⟩ (.string u.name)).setCell ⟨g,1,none⟩ (.int .u8 u.kind)).setCell ⟨g,2,none⟩ (.string u.data)).setCell ⟨g,3,none⟩ (.slice A1 u.files.length c1)).heap.size=W6.heap.size:=by simp [World.setCell]
   obtain ⟨hle,hiv,hsep,htr,htb,hfl,hOm,hOlt⟩:=HFSK.out
   have htr6:=Kd.R_below htr hbw6
   have htrn:=Kd.R_types htr6 HG6.out (by decide)
   have hflm:=hfl.lt
   have hmg:=(hfl.mv (hbw6.block m hflm)).ne HG6.out
   have htbl:∀ k,tb=some k→k<w.heap.size:=fun k e=>hOlt k (((Kd.R_bound htr).1 k (htb.trans e)).1)
   refine ⟨rfl,⟨A1,c1,v,m,lo1,hi1,store4_box6 HG6.out _ _ _ _,hc1,HIV6.out.mv fun k h1 h2=>store4_other W6 (g:=g) (by omega) _ _ _ _,fun k h1 h2=>⟨.inr ⟨by omega,by omega⟩,by omega,fun e=>by have:=htbl k e;omega⟩,Kd.R_mono (Kd.R_step htrn fun k hk _=>store4_other W6 (g:=g) hk.2 _ _ _ _) (fun k hk=>.inl hk.1),htb,hfl.mv ((store4_other W6 (g:=g) hmg _ _ _ _).trans (hbw6.block m hflm)),.inl hOm,fun k h=>h.elim (fun h=>by have:=hOlt k h;omega) fun h=>h.2⟩,?_⟩
   exact (Only.of_belowV hbw6 (fun k=>k=g)).trans (only4 W6 g _ _ _ _) (fun _ _ h=>h) (fun _ _ h=>h)
end Go.Proofs.YthlcjjhfkldmhaaGreatDoor.G
end
section
section
namespace Go.Proofs.YthlcjjhfkldmhaaGreatDoor.G
open Go.RowKit Go.Lib Go.Proofs.YthlcjjhfkldmhaaGreatDoorW.PrintWords Go.Proofs.YthlcjjhfkldmhaaGreatDoorW.PrintLast
set_option linter.unusedVariables false
def bq (n m:Nat):Array Bool:=((List.range n).map (fun j=>m.testBit j)).toArray
def reqCells (x:Req) (Ap:Option Addr) (cp:Nat) (Ad:Option Addr) (cd:Nat) (tl:Told):Array Value:=#[.slice Ap x.p.length cp,.slice Ad x.dest.length cd,.string tl.data,.int .u8 tl.kind,.int .i64 tl.size]
def OpPost (w:World) (g r:Nat) (O:Nat→Prop) (tb:Option Nat) (f:FsV) (x:Req) (Ap:Option Addr) (cp:Nat) (Ad:Option Addr) (cd:Nat) (res:File×Told×Int) (e:Ending) (w':World):Prop :=
 e=.returned (.int .i64 res.2.2)∧FsAt w' g (fun k=>O k∨w.heap.size≤k∧k<w'.heap.size) tb {f with tree:=res.1}∧w'.heap[r]? = some (.cells (reqCells x Ap cp Ad cd res.2.1) 97 (0,0))∧Only (fun k=>k=g∨k=r) w w'
theorem textF_bulk (d:ByteArray):(textF d).bulk=4+d.size:=by
 rw [bulk_eq]
 show 4+0+d.size+0=_
 omega
theorem sumP_app (a b:List ByteArray):P.sumP (a++b)=P.sumP a+P.sumP b:=by simp [P.sumP,List.sum_append]
theorem sumP_cons (n:ByteArray) (b:List ByteArray):P.sumP (n :: b)=1+(n.size:Int)+P.sumP b:=by simp [P.sumP]
theorem sumP_one (n:ByteArray):P.sumP [n]=1+(n.size:Int):=by simp [P.sumP]
theorem sumP_in {l:List ByteArray} {n:ByteArray} (h:n∈l):(n.size:Int)+1≤P.sumP l:=by
 induction l with
 | nil=>cases h
 | cons a l ih =>
  have h1:=sumP_cons a l
  have h2:=P.sumP_nonneg l
  rcases List.mem_cons.1 h with rfl | h
  ·omega
  ·have:=ih h;omega
theorem walkIn_sum (last:Bool) (follow:Option (List ByteArray→WR)) (S:Int) (hS:0≤S) (hf:∀ g,follow=some g→∀ todo,P.sumP (g todo).1≤P.sumP todo+S) :
  ∀ (todo done:List ByteArray) (here:File),P.sumP (walkIn last follow todo done here).1≤P.sumP done+P.sumP todo+S+1024
 | [],done,here=>by
  rw [walkIn]
  have:P.sumP ([]:List ByteArray)=0:=rfl
  simp only
  omega
 | n :: rest,done,here=>by
  have hd:=P.sumP_nonneg done
  have hr:=P.sumP_nonneg rest
  have hc:=sumP_cons n rest
  have h0:P.sumP ([]:List ByteArray)=0:=rfl
  have hb:∀ k,P.sumP (badW k).1≤P.sumP done+P.sumP (n :: rest)+S+1024:=fun k=>by show P.sumP []≤_;omega
  rw [walkIn]
  split
  ·split
   ·split
    ·show P.sumP (done++[n])≤_
     rw [sumP_app,sumP_one]
     omega
    ·exact hb _
   ·rename_i x hx
    split
    ·split
     ·exact hb _
     ·rename_i g
      split
      ·rename_i hz
       split
       ·have h1:=hf g rfl ((P.normR done x.data).1++rest)
        rw [sumP_app] at h1
        have h2:=P.norm_sum done x.data hz
        omega
       ·exact hb _
      ·exact hb _
    ·have h1:=walkIn_sum last follow S hS hf rest (done++[n]) x
     rw [sumP_app,sumP_one] at h1
     omega
  ·exact hb _
theorem follow_sum (t:File) (last:Bool):∀ (k:Nat) (g:List ByteArray→WR),followK t last k=some g→∀ todo,P.sumP (g todo).1≤P.sumP todo+1024 * (k:Int)
 | 0,g,h=>by simp [followK] at h
 | k+1,g,h=>by
  intro todo
  simp only [followK,Option.some.injEq] at h
  subst h
  have h1:=walkIn_sum last (followK t last k) (1024 * (k:Int)) (by omega) (follow_sum t last k) todo [] t
  have h0:P.sumP ([]:List ByteArray)=0:=rfl
  simp only
  omega
theorem walk_sum (t:File) (p:List ByteArray) (last:Bool):P.sumP (walkR t p last).1≤P.sumP p+41984:=by
 have h0:P.sumP ([]:List ByteArray)=0:=rfl
 have hp:=P.sumP_nonneg p
 unfold walkR
 split
 ·have h1:=walkIn_sum last (followK t last 40) (1024 * (40:Nat)) (by omega) (follow_sum t last 40) p [] t
  omega
 ·show P.sumP []≤_
  omega
theorem walkIn_bulk (last:Bool) (follow:Option (List ByteArray→WR)) (b:Nat) (hf:∀ g,follow=some g→∀ todo,(g todo).2.1.bulk≤b+4) :
  ∀ (todo done:List ByteArray) (here:File),here.bulk≤b→(walkIn last follow todo done here).2.1.bulk≤b+4
 | [],done,here,h=>by
  rw [walkIn]
  simp only
  omega
 | n :: rest,done,here,h=>by
  have hz:=zero_bulk4
  have hb:∀ k,(badW k).2.1.bulk≤b+4:=fun k=>by show zeroF.bulk≤_;omega
  rw [walkIn]
  split
  ·split
   ·split
    ·show zeroF.bulk≤_;omega
    ·exact hb _
   ·rename_i x hx
    split
    ·split
     ·exact hb _
     ·rename_i g
      split
      ·split
       ·exact hf g rfl _
       ·exact hb _
      ·exact hb _
    ·have h1:=bulk_child (List.mem_of_find?_eq_some hx)
     exact walkIn_bulk last follow b hf rest (done++[n]) x (by omega)
  ·exact hb _
theorem follow_bulk (t:File) (last:Bool):∀ (k:Nat) (g:List ByteArray→WR),followK t last k=some g→∀ todo,(g todo).2.1.bulk≤t.bulk+4
 | 0,g,h=>by simp [followK] at h
 | k+1,g,h=>by
  intro todo
  simp only [followK,Option.some.injEq] at h
  subst h
  exact walkIn_bulk last (followK t last k) t.bulk (follow_bulk t last k) todo [] t (Nat.le_refl _)
theorem walk_bulk (t:File) (p:List ByteArray) (last:Bool):(walkR t p last).2.1.bulk≤t.bulk+4:=by
 have hz:=zero_bulk4
 unfold walkR
 split
 ·exact walkIn_bulk last (followK t last 40) t.bulk (follow_bulk t last 40) p [] t (Nat.le_refl _)
 ·show zeroF.bulk≤_;omega
end Go.Proofs.YthlcjjhfkldmhaaGreatDoor.G
end
section
namespace Go.Proofs.YthlcjjhfkldmhaaGreatDoor.G
open Go.RowKit Go.Lib Go.Proofs.YthlcjjhfkldmhaaGreatDoorW.PrintWords Go.Proofs.YthlcjjhfkldmhaaGreatDoorW.PrintLast
set_option linter.unusedVariables false
set_option linter.unusedSimpArgs false
def There (t:File) (r:WR):Prop:=r.2.2.2=0→(r.2.2.1=true→goP t r.1=(0,some r.2.1))∧(r.2.2.1=false→r.2.1=zeroF∧∃ q n d,r.1=q++[n]∧goP t q=(0,some d)∧d.kind=1∧d.files.find? (nameIs n)=none)
theorem there_bad (t:File) (k:Int) (hk:k≠0):There t (badW k):=fun h=>absurd h hk
theorem go_one {d x:File} {n:ByteArray} (hs:SortF d) (hk:d.kind=1) (hx:d.files.find? (nameIs n)=some x):goP d [n]=(0,some x):=by
 rw [goP_find hs,if_pos hk,hx]
 simp only
 rw [goP]
theorem walkIn_there (t:File) (ht:SortF t) (last:Bool) (follow:Option (List ByteArray→WR)) (hf:∀ g,follow=some g→∀ todo,There t (g todo)) :
  ∀ (todo done:List ByteArray) (here:File),goP t done=(0,some here)→There t (walkIn last follow todo done here)
 | [],done,here,h=>by
  rw [walkIn]
  exact fun _=>And.intro (fun _=>h) (fun h2=>Bool.noConfusion h2)
 | n :: rest,done,here,h=>by
  have hs:=go_sort done t here 0 ht h
  rw [walkIn]
  split
  ·rename_i hk
   split
   ·rename_i hn
    split
    ·exact fun _=>And.intro (fun h2=>Bool.noConfusion h2) (fun _=>⟨rfl,done,n,here,rfl,h,hk,hn⟩)
    ·exact there_bad _ _ (by decide)
   ·rename_i x hx
    split
    ·split
     ·exact there_bad _ _ (by decide)
     ·rename_i g
      split
      ·split
       ·exact hf g rfl _
       ·exact there_bad _ _ (by decide)
      ·rename_i hz
       exact there_bad _ _ hz
    ·exact walkIn_there t ht last follow hf rest (done++[n]) x ((go_app done [n] t here h).trans (go_one hs hk hx))
  ·exact there_bad _ _ (by decide)
theorem follow_there (t:File) (ht:SortF t) (last:Bool):∀ (k:Nat) (g:List ByteArray→WR),followK t last k=some g→∀ todo,There t (g todo)
 | 0,g,h=>by simp [followK] at h
 | k+1,g,h=>by
  intro todo
  simp only [followK,Option.some.injEq] at h
  subst h
  exact walkIn_there t ht last (followK t last k) (follow_there t ht last k) todo [] t (by rw [goP])
theorem walk_there (t:File) (ht:rightT t=true) (p:List ByteArray) (last:Bool):There t (walkR t p last):=by
 unfold walkR
 split
 ·exact walkIn_there t (right_sort ht) last (followK t last 40) (follow_there t (right_sort ht) last 40) p [] t (by rw [goP])
 ·exact there_bad _ _ (by decide)
theorem wrongL_all {rec:File→List ByteArray→Option (List ByteArray)} {p:List ByteArray}:∀ {l:List File} {prev:Option ByteArray},wrongL rec p prev l=none→∀ x∈l,(∃ pr,badF pr (p++[x.name]) x=false)∧rec x (p++[x.name])=none
 | [],prev,h,x,hx=>by cases hx
 | y :: l,prev,h,x,hx=>by
  rw [wrongL] at h
  split at h
  ·cases h
  ·rename_i hb
   split at h
   ·cases h
   ·rename_i hr
    rcases List.mem_cons.1 hx with rfl | hx
    ·exact ⟨⟨prev,Bool.eq_false_iff.2 hb⟩,hr⟩
    ·exact wrongL_all h x hx
theorem wrong_go:∀ (q:List ByteArray) (n:Nat) (f:File) (p:List ByteArray),f.bulk≤n→wrongN n f p=none→∀ d,goP f q=(0,some d)→∀ x∈d.files,∃ pr pp,badF pr pp x=false
 | q,0,f,p,hn,h,d,hg,x,hx=>by
  have:=bulk_eq f
  omega
 | [],n+1,f,p,hn,h,d,hg,x,hx=>by
  rw [goP] at hg
  injection hg with _ hg
  injection hg with hg
  subst hg
  replace h:wrongL (wrongN n) p none f.files=none:=h
  obtain ⟨⟨pr,hb⟩,_⟩:=wrongL_all h x hx
  exact ⟨pr,_,hb⟩
 | a :: q,n+1,f,p,hn,h,d,hg,x,hx=>by
  obtain ⟨y,hk,hy,hyn,hg2⟩:=goP_full hg
  replace h:wrongL (wrongN n) p none f.files=none:=h
  have hm:=List.mem_of_getElem? hy
  have hb:=bulk_child hm
  exact wrong_go q n y _ (by omega) (wrongL_all h y hm).2 d hg2 x hx
theorem right_wrong {t:File} (h:rightT t=true):wrongN t.bulk t []=none∧t.kind=1:=by
 unfold rightT checkR at h
 split at h
 ·rename_i hk
  refine ⟨?_,hk.1⟩
  cases hw:wrongN t.bulk t [] with
  | none=>rfl
  | some b=>rw [hw] at h;simp [checkO] at h
 ·simp at h
theorem right_name {t d x:File} {q:List ByteArray} (h:rightT t=true) (hg:goP t q=(0,some d)) (hx:x∈d.files):x.name.size≤255:=by
 obtain ⟨pr,pp,hb⟩:=wrong_go q t.bulk t [] (Nat.le_refl _) (right_wrong h).1 d hg x hx
 unfold badF at hb
 simp only [Bool.or_eq_false_iff,Bool.not_eq_false'] at hb
 have hn:=hb.1.1.1
 unfold nameB at hn
 simp only [Bool.and_eq_true,decide_eq_true_iff] at hn
 have h2:=hn.1.1.1.2
 rwa [show x.name.data.toList.length=x.name.size from (Lib.size_eq x.name).symm] at h2
theorem ins_mem (l:List File) (x:File):x∈insF l x:=List.mem_of_getElem? (ins_at l x)
theorem bulk_ins_found {l:List File} {x y:File} (hf:foundB l x.name=true) (hy:l[lowB l x.name]? = some y):bulkL (insF l x)+y.bulk=bulkL l+x.bulk:=by
 have h1:=bulkL_cut l (lowB l x.name)
 unfold insF
 rw [if_pos hf,bulkL_app,bulkL_cons]
 obtain ⟨hlt,he⟩:=List.getElem?_eq_some_iff.1 hy
 rw [List.drop_eq_getElem_cons hlt,bulkL_cons,he] at h1
 omega
theorem bulk_del_at {l:List File} {n:ByteArray} {y:File} (hy:l[lowB l n]? = some y):bulkL (delF l n)+y.bulk=bulkL l:=by
 have h1:=bulkL_cut l (lowB l n)
 unfold delF
 rw [bulkL_app]
 obtain ⟨hlt,he⟩:=List.getElem?_eq_some_iff.1 hy
 rw [List.drop_eq_getElem_cons hlt,bulkL_cons,he] at h1
 omega
theorem put_ok {t f:File} {q:List ByteArray} {n:ByteArray} (h:(putR t q n f).2=0):∃ d,goP t q=(0,some d)∧d.kind=1∧rightT t=true∧rightT (putR t q n f).1=true∧(putR t q n f).1=putP t q {d with files:=insF d.files (nameF f n)}∧n.size≤255∧(putR t q n f).1.bulk+bulkL d.files=t.bulk+bulkL (insF d.files (nameF f n)):=by
 unfold putR at h ⊢
 split at h
 ·rename_i hr
  rw [if_pos hr]
  cases hg:goP t q with
  | mk k o =>
  rw [hg] at h
  cases o with
  | none =>
   simp only at h
   exact absurd hg (by rw [h];exact go_none0)
  | some d =>
  simp only at h ⊢
  obtain rfl:=goP_zero q t d k hg
  split at h
  ·rename_i hk
   split at h
   ·rename_i hu
    rw [if_pos hk,if_pos hu]
    have hgu:goP (putP t q {d with files:=insF d.files (nameF f n)}) q=(0,some {d with files:=insF d.files (nameF f n)}):=go_put q t {d with files:=insF d.files (nameF f n)} d hg rfl
    have h1:=bulk_put q t {d with files:=insF d.files (nameF f n)} d 0 hg
    have h2:=bulk_with d (insF d.files (nameF f n))
    exact ⟨d,rfl,hk,hr,hu,rfl,right_name hu hgu (ins_mem d.files (nameF f n)),by simp only;omega⟩
   ·simp at h
  ·simp at h
 ·simp at h
theorem putA_ok {t f:File} {p:List ByteArray} (h:(putA t p f).2=0):∃ q n,p=q++[n]∧(putR t q n f).2=0∧putA t p f=putR t q n f:=by
 rcases nil_or_snoc p with rfl | ⟨q,n,rfl⟩
 ·rw [putA_nil] at h
  unfold nilR at h
  split at h <;> simp at h
 ·rw [putA_snoc] at h ⊢
  exact ⟨q,n,rfl,h,rfl⟩
theorem go_last {t y:File} {q:List ByteArray} {n:ByteArray} {d:File} (hg:goP t q=(0,some d)) (hy:goP t (q++[n])=(0,some y)):d.files[lowB d.files n]? = some y∧y.name=n∧foundB d.files n=true:=by
 rw [go_app q [n] t d hg] at hy
 obtain ⟨x,_,hx,hxn,hg2⟩:=goP_full hy
 rw [goP] at hg2
 injection hg2 with _ hg2
 injection hg2 with hg2
 subst hg2
 refine ⟨hx,hxn,?_⟩
 unfold foundB
 rw [hx]
 simp [hxn]
theorem put_bulk_new {t f:File} {p:List ByteArray} (h:(putA t p f).2=0):(putA t p f).1.bulk≤t.bulk+f.bulk+255:=by
 obtain ⟨q,n,rfl,h2,h3⟩:=putA_ok h
 obtain ⟨d,hg,hk,hr,hu,he,hn,hb⟩:=put_ok h2
 rw [h3]
 have h4:=bulk_ins d.files (nameF f n)
 have h5:=bulk_name f n
 omega
theorem put_bulk_over {t f y:File} {p:List ByteArray} (h:(putA t p f).2=0) (hy:goP t p=(0,some y)):(putA t p f).1.bulk+y.bulk≤t.bulk+f.bulk+255:=by
 obtain ⟨q,n,rfl,h2,h3⟩:=putA_ok h
 obtain ⟨d,hg,hk,hr,hu,he,hn,hb⟩:=put_ok h2
 obtain ⟨h6,h7,h8⟩:=go_last hg hy
 rw [h3]
 have h4:=bulk_ins_found (x:=nameF f n) h8 h6
 have h5:=bulk_name f n
 omega
theorem put_right {t f:File} {p:List ByteArray} (h:(putA t p f).2=0):rightT (putA t p f).1=true:=by
 obtain ⟨q,n,rfl,h2,h3⟩:=putA_ok h
 obtain ⟨d,hg,hk,hr,hu,he,hn,hb⟩:=put_ok h2
 rw [h3]
 exact hu
theorem drop_ok {t y:File} {p:List ByteArray} (h:(dropA t p).2=0) (hy:goP t p=(0,some y)):(dropA t p).1.bulk+y.bulk=t.bulk:=by
 rcases nil_or_snoc p with rfl | ⟨q,n,rfl⟩
 ·rw [dropA_nil] at h
  unfold nilR at h
  split at h <;> simp at h
 ·rw [dropA_snoc] at h ⊢
  unfold dropR at h ⊢
  split at h
  ·rename_i hr
   rw [if_pos hr]
   rw [hy] at h ⊢
   simp only at h ⊢
   cases hg:goP t q with
   | mk k o =>
   rw [hg] at h
   cases o with
   | none =>
    simp only at h
    exact absurd hg (by rw [h];exact go_none0)
   | some d =>
   simp only
   obtain rfl:=goP_zero q t d k hg
   have h1:=bulk_put q t {d with files:=delF d.files n} d 0 hg
   have h2:=bulk_with d (delF d.files n)
   have h3:=bulk_del_at (go_last hg hy).1
   omega
  ·simp at h
theorem putV_zero {t s:File} {p:List ByteArray}:(putV t p s).2=(putA t p s).2:=by unfold putV;split <;> (first | rfl | (rename_i h;simp_all))
theorem putV_right {t s:File} {p:List ByteArray} (ht:rightT t=true):rightT (putV t p s).1=true:=by
 unfold putV
 split
 ·rename_i h;exact put_right h
 ·exact ht
theorem text_bulk (d:ByteArray) (y:File) (x:ByteArray) (h:d=y.data++x):(textF d).bulk≤y.bulk+x.size:=by
 rw [textF_bulk,bulk_eq y,h,ByteArray.size_append]
 omega
theorem op_grows (k:Int) (t:File) (x:Req) (ht:rightT t=true):rightT (opR k t x).1=true∧(opR k t x).1.bulk≤t.bulk+x.data.size+259:=by
 unfold opR
 split
 ·unfold lstatR
  simp only
  split
  ·split <;> exact ⟨ht,by simp only;omega⟩
  ·exact ⟨ht,by simp only;omega⟩
 split
 ·unfold readV
  simp only
  split
  ·split
   ·split <;> exact ⟨ht,by simp only;omega⟩
   ·exact ⟨ht,by simp only;omega⟩
  ·exact ⟨ht,by simp only;omega⟩
 split
 ·unfold createR
  simp only
  split
  ·split
   ·exact ⟨ht,by simp only;omega⟩
   ·refine ⟨putV_right ht,?_⟩
    simp only
    unfold putV
    split
    ·rename_i h
     have:=put_bulk_new h
     rw [textF_bulk] at this
     have h0:(⟨#[]⟩:ByteArray).size=0:=rfl
     omega
    ·simp only;omega
  ·exact ⟨ht,by simp only;omega⟩
 split
 ·unfold appendR
  simp only
  split
  ·rename_i hz
   split
   ·rename_i hi
    split
    ·exact ⟨ht,by simp only;omega⟩
    ·refine ⟨putV_right ht,?_⟩
     have hy:=(walk_there t ht x.p true hz).1 hi
     simp only
     unfold putV
     split
     ·rename_i h
      have h1:=put_bulk_over h hy
      have h2:=text_bulk _ (walkR t x.p true).2.1 x.data rfl
      omega
     ·simp only;omega
   ·exact ⟨ht,by simp only;omega⟩
  ·exact ⟨ht,by simp only;omega⟩
 ·unfold renameR
  simp only
  split
  ·rename_i hz
   split
   ·rename_i hi
    split
    ·exact ⟨ht,by simp only;omega⟩
    ·split
     ·split
      ·exact ⟨ht,by simp only;omega⟩
      ·split
       ·exact ⟨ht,by simp only;omega⟩
       ·split
        ·rename_i hd
         split
         ·rename_i hu
          have hy:=(walk_there t ht x.p false hz).1 hi
          have h1:=drop_ok hd hy
          have h2:=put_bulk_new hu
          exact ⟨put_right hu,by simp only;omega⟩
         ·exact ⟨ht,by simp only;omega⟩
        ·exact ⟨ht,by simp only;omega⟩
     ·exact ⟨ht,by simp only;omega⟩
   ·exact ⟨ht,by simp only;omega⟩
  ·exact ⟨ht,by simp only;omega⟩
theorem call_grows (f:FsV) (k:Int) (x:Req) (ht:rightT f.tree=true):rightT (callV f k x).1.tree=true∧(callV f k x).1.tree.bulk≤f.tree.bulk+x.data.size+259∧(callV f k x).1.trace.length≤f.trace.length+1∧(callV f k x).1.faults=f.faults:=by
 unfold callV
 split
 ·simp only
  split
  ·exact ⟨ht,by simp only;omega,by simp,trivial⟩
  ·exact ⟨(op_grows k f.tree x ht).1,(op_grows k f.tree x ht).2,by simp,trivial⟩
 ·exact ⟨ht,by simp only;omega,by simp only;omega,rfl⟩
end Go.Proofs.YthlcjjhfkldmhaaGreatDoor.G
end
end
section
section
namespace Go.Proofs.YthlcjjhfkldmhaaGreatDoor.G
open Go.RowKit Go.Lib Go.Proofs.YthlcjjhfkldmhaaGreatDoorW.PrintWords Go.Proofs.YthlcjjhfkldmhaaGreatDoorW.PrintLast
set_option linter.unusedVariables false
set_option linter.unusedSimpArgs false
def AllTwo (R:File→File→Prop):List File→List File→Prop
 | [],[]=>True
 | x :: l,y :: m=>R x y∧AllTwo R l m
 | _,_=>False
theorem two_same {R:File→File→Prop}:∀ {l:List File},(∀ x∈l,R x x)→AllTwo R l l
 | [],_=>trivial
 | x :: l,h=>⟨h x (List.mem_cons_self ..),two_same fun y hy=>h y (List.mem_cons_of_mem _ hy)⟩
theorem wrongL_two {rec rec':File→List ByteArray→Option (List ByteArray)} {p:List ByteArray}:∀ {l m:List File} {prev:Option ByteArray},
  AllTwo (fun x y=>x.name=y.name∧aloneB x=aloneB y∧∀ q,rec x q=none→rec' y q=none) l m→wrongL rec p prev l=none→wrongL rec' p prev m=none
 | [],[],_,_,_=>rfl
 | [],_ :: _,_,h,_=>h.elim
 | _ :: _,[],_,h,_=>h.elim
 | x :: l,y :: m,prev,⟨⟨h1,h2,h3⟩,h4⟩,h=>by
  rw [wrongL] at h ⊢
  have hb:badF prev (p++[y.name]) y=badF prev (p++[x.name]) x:=by
   unfold badF
   rw [h1,h2]
  rw [hb,← h1]
  split at h
  ·cases h
  ·rename_i hn
   rw [if_neg hn]
   split at h
   ·cases h
   ·rename_i hr
    rw [h3 _ hr]
    exact wrongL_two h4 h
theorem wrong_fuel:∀ (n m:Nat) (f:File) (p:List ByteArray),f.bulk≤n→f.bulk≤m→wrongN n f p=none→wrongN m f p=none
 | 0,m,f,p,h,_,_=>by have:=bulk_eq f;omega
 | n+1,0,f,p,_,h,_=>by have:=bulk_eq f;omega
 | n+1,m+1,f,p,h1,h2,h=>by
  rw [wrongN] at h ⊢
  exact wrongL_two (two_same fun x hx=>⟨rfl,rfl,fun q hq=>wrong_fuel n m x q (by have:=bulk_child hx;omega) (by have:=bulk_child hx;omega) hq⟩) h
end Go.Proofs.YthlcjjhfkldmhaaGreatDoor.G
end
section
namespace Go.Proofs.YthlcjjhfkldmhaaGreatDoor.G
open Go.RowKit Go.Lib Go.Proofs.YthlcjjhfkldmhaaGreatDoorW.PrintWords Go.Proofs.YthlcjjhfkldmhaaGreatDoorW.PrintLast
set_option linter.unusedVariables false
set_option linter.unusedSimpArgs false
theorem wrongL_of {rec:File→List ByteArray→Option (List ByteArray)} {p:List ByteArray}:∀ {l:List File} {prev:Option ByteArray},SortedN l→(∀ y,prev=some y→∀ x∈l,lessB y x.name=true) →
  (∀ x∈l,nameB x.name.data.toList=true∧p.length+1≤64∧aloneB x=true∧rec x (p++[x.name])=none)→wrongL rec p prev l=none
 | [],prev,_,_,_=>by rw [wrongL]
 | x :: l,prev,hs,hp,hx=>by
  obtain ⟨h1,h2,h3,h4⟩:=hx x List.mem_cons_self
  have hb:badF prev (p++[x.name]) x=false:=by
   unfold badF
   have e:prevGe prev x.name=false:=by
    cases prev with
    | none=>rfl
    | some y =>
     have:=hp y rfl x List.mem_cons_self
     unfold lessB at this
     simp [prevGe,geB,this]
   have e2:decide (64<(p++[x.name]).length)=false:=by simp;omega
   rw [h1,e,e2,h3]
   rfl
  rw [wrongL,hb,h4]
  simp only [Bool.false_eq_true,if_false]
  have hc:=List.pairwise_cons.1 hs
  exact wrongL_of hc.2 (fun y hy z hz=>by injection hy with hy;subst hy;exact hc.1 z hz) fun z hz=>hx z (List.mem_cons_of_mem _ hz)
theorem bad_parts {pr:Option ByteArray} {q:List ByteArray} {x:File} (h:badF pr q x=false):nameB x.name.data.toList=true∧q.length≤64∧aloneB x=true:=by
 unfold badF at h
 simp only [Bool.or_eq_false_iff,Bool.not_eq_false',decide_eq_false_iff_not] at h
 exact ⟨h.1.1.1,by omega,h.2⟩
theorem wrongL_mem {rec:File→List ByteArray→Option (List ByteArray)} {p:List ByteArray} {l:List File} {prev:Option ByteArray} (h:wrongL rec p prev l=none) (x:File) (hx:x∈l):nameB x.name.data.toList=true∧p.length+1≤64∧aloneB x=true∧rec x (p++[x.name])=none:=by
 obtain ⟨⟨pr,h1⟩,h2⟩:=wrongL_all h x hx
 obtain ⟨h3,h4,h5⟩:=bad_parts h1
 exact ⟨h3,by simpa using h4,h5,h2⟩
theorem sorted_set {l:List File} (hs:SortedN l) {i:Nat} {x y:File} (hx:l[i]? = some x) (hy:y.name=x.name):SortedN (l.set i y):=by
 unfold SortedN at hs ⊢
 obtain ⟨hlt,hx⟩:=List.getElem?_eq_some_iff.1 hx
 rw [List.pairwise_iff_getElem] at hs ⊢
 intro a b ha hb hab
 rw [List.length_set] at ha hb
 have hn:∀ j (hj:j<l.length),((l.set i y)[j]'(by rw [List.length_set];exact hj)).name=l[j].name:=fun j hj=>by
  rw [List.getElem_set]
  split
  ·rename_i h
   subst h
   rw [hy,← hx]
  ·rfl
 rw [hn a ha,hn b hb]
 exact hs a b ha hb hab
theorem alone_put {x d y:File} {q:List ByteArray} {k:Int} (hg:goP x q=(k,some d)) (hk:y.kind=d.kind) (h1:d.kind=1) (hd:y.data=d.data):aloneB (putP x q y)=aloneB x:=by
 cases q with
 | nil =>
  rw [goP] at hg
  injection hg with _ hg
  injection hg with hg
  subst hg
  rw [putP]
  unfold aloneB
  rw [if_pos (hk.trans h1),if_pos h1,hd]
 | cons n q =>
  obtain ⟨e1,e2,e3⟩:=putP_keep x n q y
  have hx:x.kind=1:=by
   rw [goP] at hg
   split at hg
   ·assumption
   ·cases hg
  unfold aloneB
  rw [if_pos (e2.trans hx),if_pos hx,e3]
theorem wrong_at:∀ (q:List ByteArray) (n:Nat) (f d:File) (p:List ByteArray) (k:Int),f.bulk≤n→wrongN n f p=none→goP f q=(k,some d)→∃ m,d.bulk≤m∧wrongN m d (p++q)=none
 | [],n,f,d,p,k,hb,hw,hg=>by
  rw [goP] at hg
  injection hg with _ hg
  injection hg with hg
  subst hg
  exact ⟨n,hb,by rw [List.append_nil];exact hw⟩
 | a :: q,0,f,d,p,k,hb,hw,hg=>by have:=bulk_eq f;omega
 | a :: q,n+1,f,d,p,k,hb,hw,hg=>by
  obtain ⟨x,hx,hxn,hg2⟩:=goP_step hg
  have hm:=List.mem_of_getElem? hx
  rw [wrongN] at hw
  have h1:=(wrongL_mem hw x hm).2.2.2
  have h2:=bulk_child hm
  obtain ⟨m,h3,h4⟩:=wrong_at q n x d (p++[x.name]) k (by omega) h1 hg2
  exact ⟨m,h3,by rw [hxn] at h4;simpa using h4⟩
theorem put_wrong:∀ (q:List ByteArray) (n m:Nat) (f d y:File) (p:List ByteArray) (k:Int),f.bulk≤n→wrongN n f p=none→SortF f→goP f q=(k,some d)→y.name=d.name→y.kind=d.kind→y.data=d.data→d.kind=1→(∀ j,y.bulk≤j→wrongN j y (p++q)=none)→(putP f q y).bulk≤m→wrongN m (putP f q y) p=none
 | [],n,m,f,d,y,p,k,hb,hw,hs,hg,e1,e2,e3,h1,hy,hm=>by
  rw [putP] at hm ⊢
  have:=hy m hm
  rwa [List.append_nil] at this
 | a :: q,0,m,f,d,y,p,k,hb,hw,hs,hg,e1,e2,e3,h1,hy,hm=>by have:=bulk_eq f;omega
 | a :: q,n+1,0,f,d,y,p,k,hb,hw,hs,hg,e1,e2,e3,h1,hy,hm=>by have:=bulk_eq (putP f (a :: q) y);omega
 | a :: q,n+1,m+1,f,d,y,p,k,hb,hw,hs,hg,e1,e2,e3,h1,hy,hm=>by
  obtain ⟨x,hx,hxn,hg2⟩:=goP_step hg
  have hmem:=List.mem_of_getElem? hx
  have hpe:putP f (a :: q) y={f with files:=f.files.set (lowB f.files a) (putP x q y)}:=by rw [putP,hx]
  rw [hpe] at hm ⊢
  have hnm:(putP x q y).name=x.name:=putP_name q x y d k hg2 e1
  rw [wrongN] at hw ⊢
  rw [SortF_eq] at hs
  refine wrongL_of (sorted_set hs.1 hx hnm) (fun y hy=>by cases hy) fun z hz => ?_
  have hzb:=bulk_child (f:={f with files:=f.files.set (lowB f.files a) (putP x q y)}) hz
  rcases List.mem_or_eq_of_mem_set hz with h | rfl
  ·obtain ⟨g1,g2,g3,g4⟩:=wrongL_mem hw z h
   have:=bulk_child h
   exact ⟨g1,g2,g3,wrong_fuel n m z _ (by omega) (by omega) g4⟩
  ·obtain ⟨g1,g2,g3,g4⟩:=wrongL_mem hw x hmem
   have:=bulk_child hmem
   refine ⟨by rw [hnm];exact g1,g2,by rw [alone_put hg2 e2 h1 e3];exact g3,?_⟩
   rw [hnm]
   exact put_wrong q n m x d y (p++[x.name]) k (by omega) g4 (SortL_mem.1 hs.2 x hmem) hg2 e1 e2 e3 h1 (fun j hj=>by rw [hxn];simpa using hy j hj) (by omega)
theorem putP_head {t d y:File} {q:List ByteArray} {k:Int} (hg:goP t q=(k,some d)) (e1:y.name=d.name) (e2:y.kind=d.kind) (e3:y.data=d.data):(putP t q y).name=t.name∧(putP t q y).kind=t.kind∧(putP t q y).data=t.data:=by
 cases q with
 | nil =>
  rw [goP] at hg
  injection hg with _ hg
  injection hg with hg
  subst hg
  rw [putP]
  exact ⟨e1,e2,e3⟩
 | cons n q=>exact putP_keep t n q y
theorem right_turn {t d:File} {L:List File} {q:List ByteArray} (ht:rightT t=true) (hg:goP t q=(0,some d)) (hk:d.kind=1) (hs:SortedN L) (hL:∀ j,(File.mk d.name d.kind d.data L).bulk≤j+1→∀ x∈L,nameB x.name.data.toList=true∧q.length+1≤64∧aloneB x=true∧wrongN j x (q++[x.name])=none):rightT (putP t q {d with files:=L})=true:=by
 obtain ⟨hw,_⟩:=right_wrong ht
 have h2:=put_wrong q _ _ t d {d with files:=L} [] 0 (Nat.le_refl _) hw (right_sort ht) hg rfl rfl rfl hk (fun j hj=>by
  rw [List.nil_append]
  cases j with
  | zero=>have:=bulk_eq ({d with files:=L}:File);omega
  | succ j =>
   rw [wrongN]
   exact wrongL_of hs (fun y hy=>by cases hy) (hL j hj)) (Nat.le_refl _)
 obtain ⟨e1,e2,e3⟩:=putP_head (y:={d with files:=L}) hg rfl rfl rfl
 unfold rightT checkR at ht ⊢
 rw [e1,e2,e3]
 split at ht
 ·rename_i hc
  rw [if_pos hc,h2]
  rfl
 ·exact absurd ht (by decide)
theorem at_right {t d x:File} {q:List ByteArray} (ht:rightT t=true) (hg:goP t q=(0,some d)) (hx:x∈d.files):nameB x.name.data.toList=true∧q.length+1≤64∧aloneB x=true∧∀ j,x.bulk≤j→wrongN j x (q++[x.name])=none:=by
 obtain ⟨hw,_⟩:=right_wrong ht
 obtain ⟨m,h1,h2⟩:=wrong_at q _ t d [] 0 (Nat.le_refl _) hw hg
 rw [List.nil_append] at h2
 have hb:=bulk_child hx
 cases m with
 | zero=>have:=bulk_eq d;omega
 | succ m =>
  rw [wrongN] at h2
  obtain ⟨g1,g2,g3,g4⟩:=wrongL_mem h2 x hx
  exact ⟨g1,g2,g3,fun j hj=>wrong_fuel m j x _ (by omega) hj g4⟩
theorem find_del {l:List File} {n a:ByteArray} {y:File} (hy:l[lowB l n]? = some y) (hn:y.name=n) (ha:a≠n):(delF l n).find? (nameIs a)=l.find? (nameIs a):=by
 obtain ⟨hlt,hy⟩:=List.getElem?_eq_some_iff.1 hy
 have e:l=l.take (lowB l n)++y :: l.drop (lowB l n+1):=by rw [← hy,← List.drop_eq_getElem_cons hlt,List.take_append_drop]
 unfold delF
 rw [List.find?_append]
 conv=>rhs;rw [e]
 rw [List.find?_append,List.find?_cons,nameIs_ne (by rw [hn];exact fun h=>ha h.symm)]
theorem sorted_del {l:List File} (hs:SortedN l) (n:ByteArray):SortedN (delF l n):=by
 unfold delF SortedN at *
 have h:List.Sublist (l.take (lowB l n)++l.drop (lowB l n+1)) l:=by
  have h1:List.Sublist (l.drop (lowB l n+1)) (l.drop (lowB l n)):=by
   rw [← List.drop_drop]
   exact List.drop_sublist _ _
  have h2:=List.Sublist.append (List.Sublist.refl (l.take (lowB l n))) h1
  rwa [List.take_append_drop] at h2
 exact hs.sublist h
theorem mem_del {l:List File} {n:ByteArray} {x:File} (h:x∈delF l n):x∈l:=by
 unfold delF at h
 rcases List.mem_append.1 h with h | h
 ·exact List.mem_of_mem_take h
 ·exact List.mem_of_mem_drop h
end Go.Proofs.YthlcjjhfkldmhaaGreatDoor.G
end
section
namespace Go.Proofs.YthlcjjhfkldmhaaGreatDoor.G
open Go.RowKit Go.Lib Go.Proofs.YthlcjjhfkldmhaaGreatDoorW.PrintWords Go.Proofs.YthlcjjhfkldmhaaGreatDoorW.PrintLast
set_option linter.unusedVariables false
set_option linter.unusedSimpArgs false
set_option maxHeartbeats 8000000 in
set_option maxRecDepth 100000 in
theorem read_fs (w:World) (g r:Nat) (O:Nat→Prop) (tb:Option Nat) (f:FsV) (x:Req) (Ap:Option Addr) (cp:Nat) (Ad:Option Addr) (cd:Nat) (hfs:FsAt w g O tb f) (hreq:w.heap[r]? = some (.cells #[.slice Ap x.p.length cp,.slice Ad x.dest.length cd,.string x.data,.int .u8 0,.int .i64 0] 97 (0,0))) (hrg:r≠g) (hrO:¬ O r) (hbt:f.tree.bulk≤100000000) (hp:Kd.C Kd.string w Ap x.p.length x.p) (hcp:x.p.length≤cp) (hps:P.sumP x.p≤1024) (hdb:x.data.size≤100000000) :
  Calls Tryz.prog 97 #[.pointer (some ⟨g,0,none⟩),.pointer (some ⟨r,0,none⟩)] w fun e w'=>OpPost w g r O tb f x Ap cp Ad cd (readV f.tree x) e w':=by
 have HFS0:=Lib.hid hfs
 obtain ⟨A,c,v,m,lo,hi,hbox,hle,hiv,hsep,htr,htb,hfl,hOm,hOlt⟩:=hfs
 unfold fsCells at hbox
 have hgl:=blk_lt hbox
 have hrl:=blk_lt hreq
 have HS:=Lib.hid (fun W (h:Below w.heap.size w W)=>hiv W fun k h1 h2=>h.block k (hOlt k (hsep k h1 h2).1))
 have hlen:=P.sumP_len x.p
 have hb0:=Below.refl w.heap.size w
 have I:=Lib.hid (Hd.base hb0 (by first | exact Nat.le_refl _ | exact Below.size hb0))
 replace I:=Lib.hid (Hd.and I.out (Hd.box hbox))
 replace I:=Lib.hid (Hd.and I.out (Hd.box hreq))
 replace I:=Lib.hid (Hd.and I.out (Hd.reads (hp)))
 obtain ⟨⟨q,y,is,k⟩,hu⟩:∃ r,walkR f.tree x.p true=r:=⟨_,rfl⟩
 have HU:=Lib.hid hu
 have HRES:=Lib.hid (show readV f.tree x=readV f.tree x from rfl)
 obtain ⟨res,hres⟩:∃ r,readV f.tree x=r:=⟨_,rfl⟩
 have HR:=Lib.hid (show _=res from hres)
 rw [hres]
 clear hu hres HRES hiv hsep htr hfl hOm hOlt hp hbox htb hreq
 go_enter Tryz.func97,Tryz.ntmps97
 go_wp2_with fail
 refine start_ (n:=19) (S:=fun w'=>w'.heap[g]? = some (.cells #[.string f.tree.name,.int .u8 f.tree.kind,.string f.tree.data,.slice A f.tree.files.length c,v,.map (some m)] 68 (0,0))∧w'.heap[r]? = some (.cells #[.slice Ap x.p.length cp,.slice Ad x.dest.length cd,.string x.data,.int .u8 0,.int .i64 0] 97 (0,0))) (ds:=[16]) (bq 19 0) (by kernel_rfl) rfl rfl ⟨(I.out _ (bdrew (Below.refl w.heap.size w))).2.2.1,(I.out _ (bdrew (Below.refl w.heap.size w))).2.1⟩ (fun hHeld => ?_)
 refine pA 0 10 (bq 19 1) ?_
 refine pA 1 11 (bq 19 3) ?_
 refine pA 2 12 (bq 19 7) ?_
 refine pA 4 14 (bq 19 23) ?_
 refine pA 5 15 (bq 19 55) ?_
 refine pA 6 16 (bq 19 119) ?_
 refine tA 3 13 (bq 19 127) hHeld ?_ (hy:=by
  rintro w' ⟨s0,s1⟩
  have q0:=cell_of (j:=0) s0 rfl
  have q1:=cell_of (j:=1) s0 rfl
  have q2:=cell_of (j:=2) s0 rfl
  have q3:=cell_of (j:=3) s0 rfl
  have q4:=cell_of (j:=4) s0 rfl
  have q5:=cell_of (j:=5) s0 rfl
  go_simp
  with_reducible rfl)
 refine tA 7 17 (bq 19 255) hHeld ?_ (hy:=by
  rintro w' ⟨s0,s1⟩
  have q0:=cell_of (j:=0) s1 rfl
  have q1:=cell_of (j:=1) s1 rfl
  have q2:=cell_of (j:=2) s1 rfl
  have q3:=cell_of (j:=3) s1 rfl
  have q4:=cell_of (j:=4) s1 rfl
  go_simp
  with_reducible rfl)
 refine join_ (σ:=(Option Addr×Nat×Option Addr×Nat×Nat×Nat)×Nat) 4 (bq 19 32767) (fun s=>match s with | ((B,d,A4,c4,lo1,hi1),gd)=>[(18,.tuple #[.slice B q.length d,.agg (fc y A4 c4),.bool is,.int .i64 k]),(9,.tuple #[.slice B q.length d,.agg (fc y A4 c4),.bool is,.int .i64 k]),(19,.slice B q.length d),(20,.agg (fc y A4 c4)),(21,.bool is),(22,.int .i64 k),(6,.pointer (some ⟨gd,0,none⟩))]) (fun s W=>match s with | ((B,d,A4,c4,lo1,hi1),gd)=>Below w.heap.size w W∧w.heap.size≤gd∧W.heap[gd]? = some (.cells zC 25 (0,0))∧q.length≤d∧Iv lo1 hi1 W (fun W=>Kd.C Kd.string W B q.length q)∧w.heap.size≤lo1∧hi1≤W.heap.size∧(gd<lo1∨hi1≤gd)∧y.files.length≤c4∧FileK.C w A4 y.files.length y.files) ?_ ?_
 rotate_left
 ·intro hc
  refine two_ (i:=8) (j:=14) (Ni:=some 18) (Nj:=some 6) (bq 19 511) (bq 19 16639) rfl rfl rfl rfl (by kernel_rfl) (by decide) (by decide) (fun K hK => ?_) (fun K hK => ?_)
  ·refine gA Tryz.func37 #[.agg (fc f.tree A c),.slice Ap x.p.length cp,.bool true] ?_
   refine ((show Calls Tryz.prog 37 #[.agg (fc f.tree A c),.slice Ap x.p.length cp,.bool true] _ _ from walk_calls f.tree A c Ap cp x.p true _ w ((bdrew (Below.refl w.heap.size w))) (HS.out w (Below.refl _ _)) hle (by omega) (I.out _ (bdrew (Below.refl w.heap.size w))).1 hcp (by omega) (by omega))).mono ?_
   rw [HU.out]
   rintro e w5 ⟨B,d,A4,c4,rfl,hd,hD,hc4,hC4,hq5⟩
   refine ⟨_,rfl,?_⟩
   refine hK.out _ _ (⟨(I.out _ ((bdrew (Below.refl w.heap.size w)).trans hq5)).2.2.1,(I.out _ ((bdrew (Below.refl w.heap.size w)).trans hq5)).2.1⟩) (fun _ => ?_)
   refine nA 18 ?_
   refine pA 9 9 (bq 19 1023) ?_
   refine pA 10 19 (bq 19 2047) ?_
   refine pA 11 20 (bq 19 4095) ?_
   refine pA 12 21 (bq 19 8191) ?_
   refine pA 13 22 (bq 19 16383) ?_
   refine eA 14 6 (bq 19 32767) (fun K hK => ?_)
   refine vA ?_
   refine hK.out _ _ (⟨(I.out _ (below_alloc ((bdrew (Below.refl w.heap.size w)).trans hq5) _)).2.2.1,(I.out _ (below_alloc ((bdrew (Below.refl w.heap.size w)).trans hq5) _)).2.1⟩) (fun _ => ?_)
   refine jA (hc ((B,d,A4,c4,w.drew.heap.size,w5.heap.size),w5.heap.size) _ (⟨below_alloc ((bdrew (Below.refl w.heap.size w)).trans hq5) _,((bdrew (Below.refl w.heap.size w)).trans hq5).size,blk_new w5 _,hd,Iv.mv hD fun k _ h2=>(below_alloc (Below.refl w5.heap.size w5) _).block k h2,(bdrew (Below.refl w.heap.size w)).size,(below_alloc (Below.refl w5.heap.size w5) _).size,.inr (Nat.le_refl _),hc4,hC4⟩))
  ·refine vA ?_
   refine hK.out _ _ (⟨(I.out _ (below_alloc (bdrew (Below.refl w.heap.size w)) (.cells zC 25))).2.2.1,(I.out _ (below_alloc (bdrew (Below.refl w.heap.size w)) (.cells zC 25))).2.1⟩) (fun _ => ?_)
   refine nA 6 ?_
   refine eA 8 18 (bq 19 16895) (fun K hK => ?_)
   refine gA Tryz.func37 #[.agg (fc f.tree A c),.slice Ap x.p.length cp,.bool true] ?_
   refine ((show Calls Tryz.prog 37 #[.agg (fc f.tree A c),.slice Ap x.p.length cp,.bool true] _ _ from walk_calls f.tree A c Ap cp x.p true _ w ((below_alloc (bdrew (Below.refl w.heap.size w)) (.cells zC 25))) (HS.out w (Below.refl _ _)) hle (by omega) (I.out _ (below_alloc (bdrew (Below.refl w.heap.size w)) (.cells zC 25))).1 hcp (by omega) (by omega))).mono ?_
   rw [HU.out]
   rintro e w5 ⟨B,d,A4,c4,rfl,hd,hD,hc4,hC4,hq5⟩
   refine ⟨_,rfl,?_⟩
   refine hK.out _ _ (⟨(I.out _ ((below_alloc (bdrew (Below.refl w.heap.size w)) (.cells zC 25)).trans (hq5.mono (below_alloc (Below.refl w.drew.heap.size w.drew) (.cells zC 25)).size))).2.2.1,(I.out _ ((below_alloc (bdrew (Below.refl w.heap.size w)) (.cells zC 25)).trans (hq5.mono (below_alloc (Below.refl w.drew.heap.size w.drew) (.cells zC 25)).size))).2.1⟩) (fun _ => ?_)
   refine nA 18 ?_
   refine pA 9 9 (bq 19 17407) ?_
   refine pA 10 19 (bq 19 18431) ?_
   refine pA 11 20 (bq 19 20479) ?_
   refine pA 12 21 (bq 19 24575) ?_
   refine pA 13 22 (bq 19 32767) ?_
   refine jA (hc ((B,d,A4,c4,(w.drew.alloc (.cells zC 25)).heap.size,w5.heap.size),w.heap.size) _ (⟨((below_alloc (bdrew (Below.refl w.heap.size w)) (.cells zC 25)).trans (hq5.mono (below_alloc (Below.refl w.drew.heap.size w.drew) (.cells zC 25)).size)),Nat.le_refl _,(hq5.block _ (blk_lt (blk_new w.drew (.cells zC 25)))).trans (blk_new w.drew (.cells zC 25)),hd,hD,(below_alloc (bdrew (Below.refl w.heap.size w)) (.cells zC 25)).size,Nat.le_refl _,.inl (blk_lt (blk_new w.drew (.cells zC 25))),hc4,hC4⟩))
 ·rintro ⟨⟨B,d,A4,c4,lo1,hi1⟩,gd⟩ W hF
  refine uA ?_
  obtain ⟨hbW,hgd,hzz,hd,hD,hlo1,hhi1,hsp,hc4,hC4⟩:=hF
  have hHeld:=(show W.heap[g]? = some (.cells #[.string f.tree.name,.int .u8 f.tree.kind,.string f.tree.data,.slice A f.tree.files.length c,v,.map (some m)] 68 (0,0))∧W.heap[r]? = some (.cells #[.slice Ap x.p.length cp,.slice Ad x.dest.length cd,.string x.data,.int .u8 0,.int .i64 0] 97 (0,0)) from ⟨(I.out _ hbW).2.2.1,(I.out _ hbW).2.1⟩)
  refine pA 15 5 (bq 19 65535) ?_
  refine last_ (i:=16) (N:=none) (bq 19 131071) rfl rfl (by kernel_rfl) (by decide) (fun K hK => ?_)
  obtain ⟨zc0,zc1,zc2,zc3⟩:=c4A hzz
  obtain ⟨zu0,zu1,zu2,zu3⟩:=u4A hzz
  refine sA ?_
  refine hK.out _ _ ?_
  refine pA 17 7 (bq 19 262143) ?_
  refine pA 18 8 (bq 19 524287) ?_
  refine done_ (by kernel_rfl) ?_
  have hq6:=store4_below hbW (g:=gd) hgd (.string y.name) (.int .u8 y.kind) (.string y.data) (.slice A4 y.files.length c4)
  have hd6:=store4_box hzz (.string y.name) (.int .u8 y.kind) (.string y.data) (.slice A4 y.files.length c4)
  replace I:=Lib.hid (Hd.mv I.out hq6)
  replace I:=Lib.hid (Hd.and I.out (Hd.box (hd6)))
  have hIV6:=Lib.hid (hD.mv (w':=((((W.setCell ⟨gd,0,none⟩ (.string y.name)).setCell ⟨gd,1,none⟩ (.int .u8 y.kind)).setCell ⟨gd,2,none⟩ (.string y.data)).setCell ⟨gd,3,none⟩ (.slice A4 y.files.length c4))) fun k h1 h2=>store4_other W (g:=gd) (by omega) _ _ _ _)
  have HCY:=Lib.hid hC4
  have hsz6:((((W.setCell ⟨gd,0,none⟩ (.string y.name)).setCell ⟨gd,1,none⟩ (.int .u8 y.kind)).setCell ⟨gd,2,none⟩ (.string y.data)).setCell ⟨gd,3,none⟩ (.slice A4 y.files.length c4)).heap.size=W.heap.size:=by simp [World.setCell]
  have hhi6:hi1≤((((W.setCell ⟨gd,0,none⟩ (.string y.name)).setCell ⟨gd,1,none⟩ (.int .u8 y.kind)).setCell ⟨gd,2,none⟩ (.string y.data)).setCell ⟨gd,3,none⟩ (.slice A4 y.files.length c4)).heap.size:=by omega
  clear zc0 zc1 zc2 zc3 zu0 zu1 zu2 zu3 hHeld hK hd6 hD hC4 hsz6 hzz hsp hhi1
  generalize ((((W.setCell ⟨gd,0,none⟩ (.string y.name)).setCell ⟨gd,1,none⟩ (.int .u8 y.kind)).setCell ⟨gd,2,none⟩ (.string y.data)).setCell ⟨gd,3,none⟩ (.slice A4 y.files.length c4))=W6 at *
  have hbw6:=I.out.now.2.2.2.2
  have HFS6:=Lib.hid (HFS0.out.below hbw6)
  have hs6:=hbw6.size
  have HR1:=HR.out
  unfold readV at HR1
  rw [HU.out] at HR1
  simp only at HR1
  replace HR1:=Lib.hid HR1
  have HRQ:=Lib.hid I.out.now.2.2.1
  clear HR
  by_cases hk:k=0
  rotate_left
  ·skip
   have HR2:=HR1.out
   rw [if_neg hk] at HR2
   replace HR2:=Lib.hid HR2
   have k1:(k != 0)=true:=by rw [bne_iff_ne];exact hk
   have k1e:(k == 0)=false:=beq_eq_false_iff_ne.2 hk
   clear hk
   go_wp2_with fail
   go_ret
   rw [← HR2.out]
   exact ⟨rfl,HFS6.out.mono (fun k h=>.inl h) (fun k h=>h.elim (fun h=>HFS6.out.lts k h) fun h=>h.2),HRQ.out,Only.of_belowV hbw6 _⟩
  ·skip
   subst hk
   have HR2:=HR1.out
   rw [if_pos rfl] at HR2
   replace HR2:=Lib.hid HR2
   cases is
   ·skip
    have HR3:=HR2.out
    rw [if_neg (by decide)] at HR3
    replace HR3:=Lib.hid HR3
    go_wp2_with fail
    go_ret
    rw [← HR3.out]
    exact ⟨rfl,HFS6.out.mono (fun k h=>.inl h) (fun k h=>h.elim (fun h=>HFS6.out.lts k h) fun h=>h.2),HRQ.out,Only.of_belowV hbw6 _⟩
   ·skip
    have HR3:=HR2.out
    rw [if_pos rfl] at HR3
    replace HR3:=Lib.hid HR3
    by_cases hy:y.kind=1
    ·skip
     have HR4:=HR3.out
     rw [if_pos hy] at HR4
     replace HR4:=Lib.hid HR4
     have k2:(y.kind == 1)=true:=beq_iff_eq.2 hy
     clear hy
     obtain ⟨ly0,ly1,ly2,ly3⟩:=c4A I.out.now.1
     go_wp2_with fail
     go_ret
     rw [← HR4.out]
     exact ⟨rfl,HFS6.out.mono (fun k h=>.inl h) (fun k h=>h.elim (fun h=>HFS6.out.lts k h) fun h=>h.2),HRQ.out,Only.of_belowV hbw6 _⟩
    ·skip
     have HR4:=HR3.out
     rw [if_neg hy] at HR4
     replace HR4:=Lib.hid HR4
     have k2:(y.kind == 1)=false:=beq_eq_false_iff_ne.2 hy
     clear hy
     obtain ⟨ly0,ly1,ly2,ly3⟩:=c4A I.out.now.1
     have zr:=cell_of (j:=2) HRQ.out rfl
     have ur:=unfr HRQ.out 2
     go_wp2_with fail
     go_ret
     rw [← HR4.out]
     have hkp:FsAt (W6.setCell ⟨r,2,none⟩ (.string y.data)) g O tb f:=HFS6.out.keep (fun k h=>Below.heap_setCell _ _ _ _ (fun e=>h.elim (fun h=>hrg (e.symm.trans h)) fun h=>hrO (by have e2:k=r:=e;rw [← e2];exact h))) (by simp [World.setCell])
     exact ⟨rfl,hkp.mono (fun k h=>.inl h) (fun k h=>h.elim (fun h=>hkp.lts k h) fun h=>h.2),blk_put HRQ.out 2 (.string y.data) rfl,(Only.of_belowV hbw6 (fun k=>k=g∨k=r)).trans (Only.setCell W6 ⟨r,2,none⟩ (.string y.data)) (fun _ _ h=>h) (fun _ _ h=>.inr h)⟩
end Go.Proofs.YthlcjjhfkldmhaaGreatDoor.G
end
end
section
section
namespace Go.Proofs.YthlcjjhfkldmhaaGreatDoor.G
open Go.RowKit Go.Lib Go.Proofs.YthlcjjhfkldmhaaGreatDoorW.PrintWords Go.Proofs.YthlcjjhfkldmhaaGreatDoorW.PrintLast
set_option linter.unusedVariables false
set_option linter.unusedSimpArgs false
set_option maxHeartbeats 8000000 in
set_option maxRecDepth 100000 in
theorem append_fs (w:World) (g r:Nat) (O:Nat→Prop) (tb:Option Nat) (f:FsV) (x:Req) (Ap:Option Addr) (cp:Nat) (Ad:Option Addr) (cd:Nat) (hfs:FsAt w g O tb f) (hreq:w.heap[r]? = some (.cells #[.slice Ap x.p.length cp,.slice Ad x.dest.length cd,.string x.data,.int .u8 0,.int .i64 0] 97 (0,0))) (hrg:r≠g) (hrO:¬ O r) (hbt:f.tree.bulk≤100000000) (hp:Kd.C Kd.string w Ap x.p.length x.p) (hcp:x.p.length≤cp) (hps:P.sumP x.p≤1024) (hdb:x.data.size≤100000000) :
  Calls Tryz.prog 99 #[.pointer (some ⟨g,0,none⟩),.pointer (some ⟨r,0,none⟩)] w fun e w'=>OpPost w g r O tb f x Ap cp Ad cd (appendR f.tree x) e w':=by
 have HFS0:=Lib.hid hfs
 obtain ⟨A,c,v,m,lo,hi,hbox,hle,hiv,hsep,htr,htb,hfl,hOm,hOlt⟩:=hfs
 unfold fsCells at hbox
 have hgl:=blk_lt hbox
 have hrl:=blk_lt hreq
 have HS:=Lib.hid (fun W (h:Below w.heap.size w W)=>hiv W fun k h1 h2=>h.block k (hOlt k (hsep k h1 h2).1))
 have hlen:=P.sumP_len x.p
 have hb0:=Below.refl w.heap.size w
 have I:=Lib.hid (Hd.base hb0 (by first | exact Nat.le_refl _ | exact Below.size hb0))
 replace I:=Lib.hid (Hd.and I.out (Hd.box hbox))
 replace I:=Lib.hid (Hd.and I.out (Hd.box hreq))
 replace I:=Lib.hid (Hd.and I.out (Hd.reads (hp)))
 obtain ⟨⟨q,y,is,k⟩,hu⟩:∃ r,walkR f.tree x.p true=r:=⟨_,rfl⟩
 have HU:=Lib.hid hu
 have HRES:=Lib.hid (show appendR f.tree x=appendR f.tree x from rfl)
 obtain ⟨res,hres⟩:∃ r,appendR f.tree x=r:=⟨_,rfl⟩
 have HR:=Lib.hid (show _=res from hres)
 rw [hres]
 clear hu hres HRES hiv hsep htr hfl hOm hOlt hp hbox htb hreq
 go_enter Tryz.func99,Tryz.ntmps99
 go_wp2_with fail
 refine start_ (n:=19) (S:=fun w'=>w'.heap[g]? = some (.cells #[.string f.tree.name,.int .u8 f.tree.kind,.string f.tree.data,.slice A f.tree.files.length c,v,.map (some m)] 68 (0,0))∧w'.heap[r]? = some (.cells #[.slice Ap x.p.length cp,.slice Ad x.dest.length cd,.string x.data,.int .u8 0,.int .i64 0] 97 (0,0))) (ds:=[16]) (bq 19 0) (by kernel_rfl) rfl rfl ⟨(I.out _ (bdrew (Below.refl w.heap.size w))).2.2.1,(I.out _ (bdrew (Below.refl w.heap.size w))).2.1⟩ (fun hHeld => ?_)
 refine pA 0 10 (bq 19 1) ?_
 refine pA 1 11 (bq 19 3) ?_
 refine pA 2 12 (bq 19 7) ?_
 refine pA 4 14 (bq 19 23) ?_
 refine pA 5 15 (bq 19 55) ?_
 refine pA 6 16 (bq 19 119) ?_
 refine tA 3 13 (bq 19 127) hHeld ?_ (hy:=by
  rintro w' ⟨s0,s1⟩
  have q0:=cell_of (j:=0) s0 rfl
  have q1:=cell_of (j:=1) s0 rfl
  have q2:=cell_of (j:=2) s0 rfl
  have q3:=cell_of (j:=3) s0 rfl
  have q4:=cell_of (j:=4) s0 rfl
  have q5:=cell_of (j:=5) s0 rfl
  go_simp
  with_reducible rfl)
 refine tA 7 17 (bq 19 255) hHeld ?_ (hy:=by
  rintro w' ⟨s0,s1⟩
  have q0:=cell_of (j:=0) s1 rfl
  have q1:=cell_of (j:=1) s1 rfl
  have q2:=cell_of (j:=2) s1 rfl
  have q3:=cell_of (j:=3) s1 rfl
  have q4:=cell_of (j:=4) s1 rfl
  go_simp
  with_reducible rfl)
 refine join_ (σ:=(Option Addr×Nat×Option Addr×Nat×Nat×Nat)×Nat) 4 (bq 19 32767) (fun s=>match s with | ((B,d,A4,c4,lo1,hi1),gd)=>[(18,.tuple #[.slice B q.length d,.agg (fc y A4 c4),.bool is,.int .i64 k]),(9,.tuple #[.slice B q.length d,.agg (fc y A4 c4),.bool is,.int .i64 k]),(19,.slice B q.length d),(20,.agg (fc y A4 c4)),(21,.bool is),(22,.int .i64 k),(6,.pointer (some ⟨gd,0,none⟩))]) (fun s W=>match s with | ((B,d,A4,c4,lo1,hi1),gd)=>Below w.heap.size w W∧w.heap.size≤gd∧W.heap[gd]? = some (.cells zC 25 (0,0))∧q.length≤d∧Iv lo1 hi1 W (fun W=>Kd.C Kd.string W B q.length q)∧w.heap.size≤lo1∧hi1≤W.heap.size∧(gd<lo1∨hi1≤gd)∧y.files.length≤c4∧FileK.C w A4 y.files.length y.files) ?_ ?_
 rotate_left
 ·intro hc
  refine two_ (i:=8) (j:=14) (Ni:=some 18) (Nj:=some 6) (bq 19 511) (bq 19 16639) rfl rfl rfl rfl (by kernel_rfl) (by decide) (by decide) (fun K hK => ?_) (fun K hK => ?_)
  ·refine gA Tryz.func37 #[.agg (fc f.tree A c),.slice Ap x.p.length cp,.bool true] ?_
   refine ((show Calls Tryz.prog 37 #[.agg (fc f.tree A c),.slice Ap x.p.length cp,.bool true] _ _ from walk_calls f.tree A c Ap cp x.p true _ w ((bdrew (Below.refl w.heap.size w))) (HS.out w (Below.refl _ _)) hle (by omega) (I.out _ (bdrew (Below.refl w.heap.size w))).1 hcp (by omega) (by omega))).mono ?_
   rw [HU.out]
   rintro e w5 ⟨B,d,A4,c4,rfl,hd,hD,hc4,hC4,hq5⟩
   refine ⟨_,rfl,?_⟩
   refine hK.out _ _ (⟨(I.out _ ((bdrew (Below.refl w.heap.size w)).trans hq5)).2.2.1,(I.out _ ((bdrew (Below.refl w.heap.size w)).trans hq5)).2.1⟩) (fun _ => ?_)
   refine nA 18 ?_
   refine pA 9 9 (bq 19 1023) ?_
   refine pA 10 19 (bq 19 2047) ?_
   refine pA 11 20 (bq 19 4095) ?_
   refine pA 12 21 (bq 19 8191) ?_
   refine pA 13 22 (bq 19 16383) ?_
   refine eA 14 6 (bq 19 32767) (fun K hK => ?_)
   refine vA ?_
   refine hK.out _ _ (⟨(I.out _ (below_alloc ((bdrew (Below.refl w.heap.size w)).trans hq5) _)).2.2.1,(I.out _ (below_alloc ((bdrew (Below.refl w.heap.size w)).trans hq5) _)).2.1⟩) (fun _ => ?_)
   refine jA (hc ((B,d,A4,c4,w.drew.heap.size,w5.heap.size),w5.heap.size) _ (⟨below_alloc ((bdrew (Below.refl w.heap.size w)).trans hq5) _,((bdrew (Below.refl w.heap.size w)).trans hq5).size,blk_new w5 _,hd,Iv.mv hD fun k _ h2=>(below_alloc (Below.refl w5.heap.size w5) _).block k h2,(bdrew (Below.refl w.heap.size w)).size,(below_alloc (Below.refl w5.heap.size w5) _).size,.inr (Nat.le_refl _),hc4,hC4⟩))
  ·refine vA ?_
   refine hK.out _ _ (⟨(I.out _ (below_alloc (bdrew (Below.refl w.heap.size w)) (.cells zC 25))).2.2.1,(I.out _ (below_alloc (bdrew (Below.refl w.heap.size w)) (.cells zC 25))).2.1⟩) (fun _ => ?_)
   refine nA 6 ?_
   refine eA 8 18 (bq 19 16895) (fun K hK => ?_)
   refine gA Tryz.func37 #[.agg (fc f.tree A c),.slice Ap x.p.length cp,.bool true] ?_
   refine ((show Calls Tryz.prog 37 #[.agg (fc f.tree A c),.slice Ap x.p.length cp,.bool true] _ _ from walk_calls f.tree A c Ap cp x.p true _ w ((below_alloc (bdrew (Below.refl w.heap.size w)) (.cells zC 25))) (HS.out w (Below.refl _ _)) hle (by omega) (I.out _ (below_alloc (bdrew (Below.refl w.heap.size w)) (.cells zC 25))).1 hcp (by omega) (by omega))).mono ?_
   rw [HU.out]
   rintro e w5 ⟨B,d,A4,c4,rfl,hd,hD,hc4,hC4,hq5⟩
   refine ⟨_,rfl,?_⟩
   refine hK.out _ _ (⟨(I.out _ ((below_alloc (bdrew (Below.refl w.heap.size w)) (.cells zC 25)).trans (hq5.mono (below_alloc (Below.refl w.drew.heap.size w.drew) (.cells zC 25)).size))).2.2.1,(I.out _ ((below_alloc (bdrew (Below.refl w.heap.size w)) (.cells zC 25)).trans (hq5.mono (below_alloc (Below.refl w.drew.heap.size w.drew) (.cells zC 25)).size))).2.1⟩) (fun _ => ?_)
   refine nA 18 ?_
   refine pA 9 9 (bq 19 17407) ?_
   refine pA 10 19 (bq 19 18431) ?_
   refine pA 11 20 (bq 19 20479) ?_
   refine pA 12 21 (bq 19 24575) ?_
   refine pA 13 22 (bq 19 32767) ?_
   refine jA (hc ((B,d,A4,c4,(w.drew.alloc (.cells zC 25)).heap.size,w5.heap.size),w.heap.size) _ (⟨((below_alloc (bdrew (Below.refl w.heap.size w)) (.cells zC 25)).trans (hq5.mono (below_alloc (Below.refl w.drew.heap.size w.drew) (.cells zC 25)).size)),Nat.le_refl _,(hq5.block _ (blk_lt (blk_new w.drew (.cells zC 25)))).trans (blk_new w.drew (.cells zC 25)),hd,hD,(below_alloc (bdrew (Below.refl w.heap.size w)) (.cells zC 25)).size,Nat.le_refl _,.inl (blk_lt (blk_new w.drew (.cells zC 25))),hc4,hC4⟩))
 ·rintro ⟨⟨B,d,A4,c4,lo1,hi1⟩,gd⟩ W hF
  refine uA ?_
  obtain ⟨hbW,hgd,hzz,hd,hD,hlo1,hhi1,hsp,hc4,hC4⟩:=hF
  have hHeld:=(show W.heap[g]? = some (.cells #[.string f.tree.name,.int .u8 f.tree.kind,.string f.tree.data,.slice A f.tree.files.length c,v,.map (some m)] 68 (0,0))∧W.heap[r]? = some (.cells #[.slice Ap x.p.length cp,.slice Ad x.dest.length cd,.string x.data,.int .u8 0,.int .i64 0] 97 (0,0)) from ⟨(I.out _ hbW).2.2.1,(I.out _ hbW).2.1⟩)
  refine pA 15 5 (bq 19 65535) ?_
  refine last_ (i:=16) (N:=none) (bq 19 131071) rfl rfl (by kernel_rfl) (by decide) (fun K hK => ?_)
  obtain ⟨zc0,zc1,zc2,zc3⟩:=c4A hzz
  obtain ⟨zu0,zu1,zu2,zu3⟩:=u4A hzz
  refine sA ?_
  refine hK.out _ _ ?_
  refine pA 17 7 (bq 19 262143) ?_
  refine pA 18 8 (bq 19 524287) ?_
  refine done_ (by kernel_rfl) ?_
  have hq6:=store4_below hbW (g:=gd) hgd (.string y.name) (.int .u8 y.kind) (.string y.data) (.slice A4 y.files.length c4)
  have hd6:=store4_box hzz (.string y.name) (.int .u8 y.kind) (.string y.data) (.slice A4 y.files.length c4)
  replace I:=Lib.hid (Hd.mv I.out hq6)
  replace I:=Lib.hid (Hd.and I.out (Hd.box (hd6)))
  have hIV6:=Lib.hid (hD.mv (w':=((((W.setCell ⟨gd,0,none⟩ (.string y.name)).setCell ⟨gd,1,none⟩ (.int .u8 y.kind)).setCell ⟨gd,2,none⟩ (.string y.data)).setCell ⟨gd,3,none⟩ (.slice A4 y.files.length c4))) fun k h1 h2=>store4_other W (g:=gd) (by omega) _ _ _ _)
  have HCY:=Lib.hid hC4
  have hsz6:((((W.setCell ⟨gd,0,none⟩ (.string y.name)).setCell ⟨gd,1,none⟩ (.int .u8 y.kind)).setCell ⟨gd,2,none⟩ (.string y.data)).setCell ⟨gd,3,none⟩ (.slice A4 y.files.length c4)).heap.size=W.heap.size:=by simp [World.setCell]
  have hhi6:hi1≤((((W.setCell ⟨gd,0,none⟩ (.string y.name)).setCell ⟨gd,1,none⟩ (.int .u8 y.kind)).setCell ⟨gd,2,none⟩ (.string y.data)).setCell ⟨gd,3,none⟩ (.slice A4 y.files.length c4)).heap.size:=by omega
  clear zc0 zc1 zc2 zc3 zu0 zu1 zu2 zu3 hHeld hK hd6 hD hC4 hsz6 hzz hsp hhi1
  generalize ((((W.setCell ⟨gd,0,none⟩ (.string y.name)).setCell ⟨gd,1,none⟩ (.int .u8 y.kind)).setCell ⟨gd,2,none⟩ (.string y.data)).setCell ⟨gd,3,none⟩ (.slice A4 y.files.length c4))=W6 at *
  have hbw6:=I.out.now.2.2.2.2
  have HFS6:=Lib.hid (HFS0.out.below hbw6)
  have hs6:=hbw6.size
  have HR1:=HR.out
  unfold appendR at HR1
  rw [HU.out] at HR1
  simp only at HR1
  replace HR1:=Lib.hid HR1
  have HRQ:=Lib.hid I.out.now.2.2.1
  clear HR
  by_cases hk:k=0
  rotate_left
  ·skip
   have HR2:=HR1.out
   rw [if_neg hk] at HR2
   replace HR2:=Lib.hid HR2
   have k1:(k != 0)=true:=by rw [bne_iff_ne];exact hk
   have k1e:(k == 0)=false:=beq_eq_false_iff_ne.2 hk
   clear hk
   go_wp2_with fail
   go_ret
   rw [← HR2.out]
   exact ⟨rfl,HFS6.out.mono (fun k h=>.inl h) (fun k h=>h.elim (fun h=>HFS6.out.lts k h) fun h=>h.2),HRQ.out,Only.of_belowV hbw6 _⟩
  ·skip
   subst hk
   have HR2:=HR1.out
   rw [if_pos rfl] at HR2
   replace HR2:=Lib.hid HR2
   cases is
   ·skip
    have HR3:=HR2.out
    rw [if_neg (by decide)] at HR3
    replace HR3:=Lib.hid HR3
    go_wp2_with fail
    go_ret
    rw [← HR3.out]
    exact ⟨rfl,HFS6.out.mono (fun k h=>.inl h) (fun k h=>h.elim (fun h=>HFS6.out.lts k h) fun h=>h.2),HRQ.out,Only.of_belowV hbw6 _⟩
   ·skip
    have HR3:=HR2.out
    rw [if_pos rfl] at HR3
    replace HR3:=Lib.hid HR3
    by_cases hy:y.kind=1
    ·skip
     have HR4:=HR3.out
     rw [if_pos hy] at HR4
     replace HR4:=Lib.hid HR4
     have k2:(y.kind == 1)=true:=beq_iff_eq.2 hy
     clear hy
     obtain ⟨ly0,ly1,ly2,ly3⟩:=c4A I.out.now.1
     go_wp2_with fail
     go_ret
     rw [← HR4.out]
     exact ⟨rfl,HFS6.out.mono (fun k h=>.inl h) (fun k h=>h.elim (fun h=>HFS6.out.lts k h) fun h=>h.2),HRQ.out,Only.of_belowV hbw6 _⟩
    ·skip
     have HR4:=HR3.out
     rw [if_neg hy] at HR4
     replace HR4:=Lib.hid HR4
     have k2:(y.kind == 1)=false:=beq_eq_false_iff_ne.2 hy
     clear hy
     obtain ⟨ly0,ly1,ly2,ly3⟩:=c4A I.out.now.1
     have hqs:=walk_sum f.tree x.p true
     have hyb:=walk_bulk f.tree x.p true
     rw [HU.out] at hqs hyb
     simp only at hqs hyb
     have hql:=P.sumP_len q
     have HQN:Hid (∀ n∈q,n.size≤1000000000):=Lib.hid fun n hn=>by have:=sumP_in hn;omega
     have hyd:=bulk_eq y
     have HTB:Hid ((textF (y.data++x.data)).bulk≤1000000000):=Lib.hid (by
      rw [textF_bulk]
      have h1:(y.data++x.data).size=y.data.size+x.data.size:=by simp
      omega)
     have HFSM:=Lib.hid (show FsAt W6 g (fun k=>O k∨w.heap.size≤k∧k<W6.heap.size) tb f from HFS6.out.mono (fun k h=>.inl h) (fun k h=>h.elim (fun h=>HFS6.out.lts k h) fun h=>h.2))
     have hhq:hi1≤W6.heap.size:=hhi6
     have HYX:Hid (¬ 9223372036854775807<y.data.size+x.data.size):=Lib.hid (by omega)
     clear hyd
     go_wp2_with fail
     clear ly0 ly1 ly2 ly3
     refine start_ (n:=12) (S:=fun w'=>w'.heap[gd]? = some (.cells (fc y A4 c4) 25 (0,0))∧w'.heap[r]? = some (.cells #[.slice Ap x.p.length cp,.slice Ad x.dest.length cd,.string x.data,.int .u8 0,.int .i64 0] 97 (0,0))) (ds:=[]) (bq 12 0) (by kernel_rfl) rfl rfl ⟨(I.out _ (bdrew (Below.refl W6.heap.size W6))).1,(I.out _ (bdrew (Below.refl W6.heap.size W6))).2.2.1⟩ (fun hHeld => ?_)
     refine pA 0 34 (bq 12 1) ?_
     refine pA 1 35 (bq 12 3) ?_
     refine pA 2 36 (bq 12 7) ?_
     refine pA 4 38 (bq 12 23) ?_
     refine pA 5 39 (bq 12 55) ?_
     refine pA 6 40 (bq 12 119) ?_
     refine tA 3 37 (bq 12 127) hHeld ?_ (hy:=by
      rintro w' ⟨s0,s1⟩
      have q2:=cell_of (j:=2) s0 rfl
      go_simp
      with_reducible rfl)
     refine tA 7 41 (bq 12 255) hHeld ?_ (hy:=by
      rintro w' ⟨s0,s1⟩
      have q2:=cell_of (j:=2) s1 rfl
      go_simp
      with_reducible rfl)
     refine pB 8 42 (bq 12 511) ?_ (hy:=by
      intro w'
      go_simp
      rw [if_neg HYX.out])
     refine pA 9 43 (bq 12 1023) ?_
     refine eA 10 44 (bq 12 2047) (fun K hK => ?_)
     refine gA Tryz.func112 #[.pointer (some ⟨g,0,none⟩),.slice B q.length d,.agg #[.string ⟨#[]⟩,.int .u8 2,.string (y.data++x.data),.slice none 0 0]] ?_
     refine (show Calls Tryz.prog 112 #[.pointer (some ⟨g,0,none⟩),.slice B q.length d,.agg #[.string ⟨#[]⟩,.int .u8 2,.string (y.data++x.data),.slice none 0 0]] _ _ from put_calls_fs _ g (fun k=>O k∨w.heap.size≤k∧k<W6.heap.size) tb f B d q (textF (y.data++x.data)) none 0 ((HFSM.out).below (bdrew (Below.refl W6.heap.size W6))) (by omega) (hIV6.out.mv fun k _ h2=>((bdrew (Below.refl W6.heap.size W6))).block k (by omega)).now hd (by omega) HQN.out (Kd.C_nil FileK _) (Nat.le_refl _) HTB.out).mono ?_
     rintro e w9 ⟨rfl,hfs9,ho9⟩
     refine ⟨_,rfl,?_⟩
     have hr9:=ho9.block r (Nat.lt_of_lt_of_le hrl hs6) hrg
     refine hK.out _ _ ⟨(ho9.block gd (blk_lt I.out.now.1) (by omega)).trans I.out.now.1,hr9.trans I.out.now.2.2.1⟩ (fun _ => ?_)
     refine nA 44 ?_
     refine pA 11 4 (bq 12 4095) ?_
     refine done_ (by kernel_rfl) ?_
     go_wp2_with fail
     go_ret
     rw [← HR4.out]
     have ho6:Only (fun k=>k=g) W6 w9:=⟨ho9.os,ho9.tape,ho9.output,ho9.size,ho9.block⟩
     have hs9:=ho6.size
     exact ⟨rfl,hfs9.mono (fun k h=>h.elim (fun h=>h.elim .inl fun h=>.inr ⟨h.1,by omega⟩) fun h=>.inr ⟨Nat.le_trans hs6 h.1,h.2⟩) (fun k h=>h.elim (fun h=>Nat.lt_of_lt_of_le (HFS6.out.lts k h) hs9) fun h=>h.2),hr9.trans HRQ.out,(Only.of_belowV hbw6 (fun k=>k=g∨k=r)).trans ho6 (fun _ _ h=>h) (fun _ _ h=>.inl h)⟩
end Go.Proofs.YthlcjjhfkldmhaaGreatDoor.G
end
section
namespace Go.Proofs.YthlcjjhfkldmhaaGreatDoor.G
open Go.RowKit Go.Lib Go.Proofs.YthlcjjhfkldmhaaGreatDoorW.PrintWords Go.Proofs.YthlcjjhfkldmhaaGreatDoorW.PrintLast
set_option linter.unusedVariables false
set_option linter.unusedSimpArgs false
set_option maxHeartbeats 8000000 in
set_option maxRecDepth 100000 in
theorem create_fs (w:World) (g r:Nat) (O:Nat→Prop) (tb:Option Nat) (f:FsV) (x:Req) (Ap:Option Addr) (cp:Nat) (Ad:Option Addr) (cd:Nat) (hfs:FsAt w g O tb f) (hreq:w.heap[r]? = some (.cells #[.slice Ap x.p.length cp,.slice Ad x.dest.length cd,.string x.data,.int .u8 0,.int .i64 0] 97 (0,0))) (hrg:r≠g) (hrO:¬ O r) (hbt:f.tree.bulk≤100000000) (hp:Kd.C Kd.string w Ap x.p.length x.p) (hcp:x.p.length≤cp) (hps:P.sumP x.p≤1024) (hdb:x.data.size≤100000000) :
  Calls Tryz.prog 98 #[.pointer (some ⟨g,0,none⟩),.pointer (some ⟨r,0,none⟩)] w fun e w'=>OpPost w g r O tb f x Ap cp Ad cd (createR f.tree x) e w':=by
 have HFS0:=Lib.hid hfs
 obtain ⟨A,c,v,m,lo,hi,hbox,hle,hiv,hsep,htr,htb,hfl,hOm,hOlt⟩:=hfs
 unfold fsCells at hbox
 have hgl:=blk_lt hbox
 have hrl:=blk_lt hreq
 have HS:=Lib.hid (fun W (h:Below w.heap.size w W)=>hiv W fun k h1 h2=>h.block k (hOlt k (hsep k h1 h2).1))
 have hlen:=P.sumP_len x.p
 have hb0:=Below.refl w.heap.size w
 have I:=Lib.hid (Hd.base hb0 (by first | exact Nat.le_refl _ | exact Below.size hb0))
 replace I:=Lib.hid (Hd.and I.out (Hd.box hbox))
 replace I:=Lib.hid (Hd.and I.out (Hd.box hreq))
 replace I:=Lib.hid (Hd.and I.out (Hd.reads (hp)))
 obtain ⟨⟨q,y,is,k⟩,hu⟩:∃ r,walkR f.tree x.p true=r:=⟨_,rfl⟩
 have HU:=Lib.hid hu
 have HRES:=Lib.hid (show createR f.tree x=createR f.tree x from rfl)
 obtain ⟨res,hres⟩:∃ r,createR f.tree x=r:=⟨_,rfl⟩
 have HR:=Lib.hid (show _=res from hres)
 rw [hres]
 clear hu hres HRES hiv hsep htr hfl hOm hOlt hp hbox htb hreq
 go_enter Tryz.func98,Tryz.ntmps98
 go_wp2_with fail
 refine start_ (n:=19) (S:=fun w'=>w'.heap[g]? = some (.cells #[.string f.tree.name,.int .u8 f.tree.kind,.string f.tree.data,.slice A f.tree.files.length c,v,.map (some m)] 68 (0,0))∧w'.heap[r]? = some (.cells #[.slice Ap x.p.length cp,.slice Ad x.dest.length cd,.string x.data,.int .u8 0,.int .i64 0] 97 (0,0))) (ds:=[16]) (bq 19 0) (by kernel_rfl) rfl rfl ⟨(I.out _ (bdrew (Below.refl w.heap.size w))).2.2.1,(I.out _ (bdrew (Below.refl w.heap.size w))).2.1⟩ (fun hHeld => ?_)
 refine pA 0 10 (bq 19 1) ?_
 refine pA 1 11 (bq 19 3) ?_
 refine pA 2 12 (bq 19 7) ?_
 refine pA 4 14 (bq 19 23) ?_
 refine pA 5 15 (bq 19 55) ?_
 refine pA 6 16 (bq 19 119) ?_
 refine tA 3 13 (bq 19 127) hHeld ?_ (hy:=by
  rintro w' ⟨s0,s1⟩
  have q0:=cell_of (j:=0) s0 rfl
  have q1:=cell_of (j:=1) s0 rfl
  have q2:=cell_of (j:=2) s0 rfl
  have q3:=cell_of (j:=3) s0 rfl
  have q4:=cell_of (j:=4) s0 rfl
  have q5:=cell_of (j:=5) s0 rfl
  go_simp
  with_reducible rfl)
 refine tA 7 17 (bq 19 255) hHeld ?_ (hy:=by
  rintro w' ⟨s0,s1⟩
  have q0:=cell_of (j:=0) s1 rfl
  have q1:=cell_of (j:=1) s1 rfl
  have q2:=cell_of (j:=2) s1 rfl
  have q3:=cell_of (j:=3) s1 rfl
  have q4:=cell_of (j:=4) s1 rfl
  go_simp
  with_reducible rfl)
 refine join_ (σ:=(Option Addr×Nat×Option Addr×Nat×Nat×Nat)×Nat) 4 (bq 19 32767) (fun s=>match s with | ((B,d,A4,c4,lo1,hi1),gd)=>[(18,.tuple #[.slice B q.length d,.agg (fc y A4 c4),.bool is,.int .i64 k]),(9,.tuple #[.slice B q.length d,.agg (fc y A4 c4),.bool is,.int .i64 k]),(19,.slice B q.length d),(20,.agg (fc y A4 c4)),(21,.bool is),(22,.int .i64 k),(6,.pointer (some ⟨gd,0,none⟩))]) (fun s W=>match s with | ((B,d,A4,c4,lo1,hi1),gd)=>Below w.heap.size w W∧w.heap.size≤gd∧W.heap[gd]? = some (.cells zC 25 (0,0))∧q.length≤d∧Iv lo1 hi1 W (fun W=>Kd.C Kd.string W B q.length q)∧w.heap.size≤lo1∧hi1≤W.heap.size∧(gd<lo1∨hi1≤gd)∧y.files.length≤c4∧FileK.C w A4 y.files.length y.files) ?_ ?_
 rotate_left
 ·intro hc
  refine two_ (i:=8) (j:=14) (Ni:=some 18) (Nj:=some 6) (bq 19 511) (bq 19 16639) rfl rfl rfl rfl (by kernel_rfl) (by decide) (by decide) (fun K hK => ?_) (fun K hK => ?_)
  ·refine gA Tryz.func37 #[.agg (fc f.tree A c),.slice Ap x.p.length cp,.bool true] ?_
   refine ((show Calls Tryz.prog 37 #[.agg (fc f.tree A c),.slice Ap x.p.length cp,.bool true] _ _ from walk_calls f.tree A c Ap cp x.p true _ w ((bdrew (Below.refl w.heap.size w))) (HS.out w (Below.refl _ _)) hle (by omega) (I.out _ (bdrew (Below.refl w.heap.size w))).1 hcp (by omega) (by omega))).mono ?_
   rw [HU.out]
   rintro e w5 ⟨B,d,A4,c4,rfl,hd,hD,hc4,hC4,hq5⟩
   refine ⟨_,rfl,?_⟩
   refine hK.out _ _ (⟨(I.out _ ((bdrew (Below.refl w.heap.size w)).trans hq5)).2.2.1,(I.out _ ((bdrew (Below.refl w.heap.size w)).trans hq5)).2.1⟩) (fun _ => ?_)
   refine nA 18 ?_
   refine pA 9 9 (bq 19 1023) ?_
   refine pA 10 19 (bq 19 2047) ?_
   refine pA 11 20 (bq 19 4095) ?_
   refine pA 12 21 (bq 19 8191) ?_
   refine pA 13 22 (bq 19 16383) ?_
   refine eA 14 6 (bq 19 32767) (fun K hK => ?_)
   refine vA ?_
   refine hK.out _ _ (⟨(I.out _ (below_alloc ((bdrew (Below.refl w.heap.size w)).trans hq5) _)).2.2.1,(I.out _ (below_alloc ((bdrew (Below.refl w.heap.size w)).trans hq5) _)).2.1⟩) (fun _ => ?_)
   refine jA (hc ((B,d,A4,c4,w.drew.heap.size,w5.heap.size),w5.heap.size) _ (⟨below_alloc ((bdrew (Below.refl w.heap.size w)).trans hq5) _,((bdrew (Below.refl w.heap.size w)).trans hq5).size,blk_new w5 _,hd,Iv.mv hD fun k _ h2=>(below_alloc (Below.refl w5.heap.size w5) _).block k h2,(bdrew (Below.refl w.heap.size w)).size,(below_alloc (Below.refl w5.heap.size w5) _).size,.inr (Nat.le_refl _),hc4,hC4⟩))
  ·refine vA ?_
   refine hK.out _ _ (⟨(I.out _ (below_alloc (bdrew (Below.refl w.heap.size w)) (.cells zC 25))).2.2.1,(I.out _ (below_alloc (bdrew (Below.refl w.heap.size w)) (.cells zC 25))).2.1⟩) (fun _ => ?_)
   refine nA 6 ?_
   refine eA 8 18 (bq 19 16895) (fun K hK => ?_)
   refine gA Tryz.func37 #[.agg (fc f.tree A c),.slice Ap x.p.length cp,.bool true] ?_
   refine ((show Calls Tryz.prog 37 #[.agg (fc f.tree A c),.slice Ap x.p.length cp,.bool true] _ _ from walk_calls f.tree A c Ap cp x.p true _ w ((below_alloc (bdrew (Below.refl w.heap.size w)) (.cells zC 25))) (HS.out w (Below.refl _ _)) hle (by omega) (I.out _ (below_alloc (bdrew (Below.refl w.heap.size w)) (.cells zC 25))).1 hcp (by omega) (by omega))).mono ?_
   rw [HU.out]
   rintro e w5 ⟨B,d,A4,c4,rfl,hd,hD,hc4,hC4,hq5⟩
   refine ⟨_,rfl,?_⟩
   refine hK.out _ _ (⟨(I.out _ ((below_alloc (bdrew (Below.refl w.heap.size w)) (.cells zC 25)).trans (hq5.mono (below_alloc (Below.refl w.drew.heap.size w.drew) (.cells zC 25)).size))).2.2.1,(I.out _ ((below_alloc (bdrew (Below.refl w.heap.size w)) (.cells zC 25)).trans (hq5.mono (below_alloc (Below.refl w.drew.heap.size w.drew) (.cells zC 25)).size))).2.1⟩) (fun _ => ?_)
   refine nA 18 ?_
   refine pA 9 9 (bq 19 17407) ?_
   refine pA 10 19 (bq 19 18431) ?_
   refine pA 11 20 (bq 19 20479) ?_
   refine pA 12 21 (bq 19 24575) ?_
   refine pA 13 22 (bq 19 32767) ?_
   refine jA (hc ((B,d,A4,c4,(w.drew.alloc (.cells zC 25)).heap.size,w5.heap.size),w.heap.size) _ (⟨((below_alloc (bdrew (Below.refl w.heap.size w)) (.cells zC 25)).trans (hq5.mono (below_alloc (Below.refl w.drew.heap.size w.drew) (.cells zC 25)).size)),Nat.le_refl _,(hq5.block _ (blk_lt (blk_new w.drew (.cells zC 25)))).trans (blk_new w.drew (.cells zC 25)),hd,hD,(below_alloc (bdrew (Below.refl w.heap.size w)) (.cells zC 25)).size,Nat.le_refl _,.inl (blk_lt (blk_new w.drew (.cells zC 25))),hc4,hC4⟩))
 ·rintro ⟨⟨B,d,A4,c4,lo1,hi1⟩,gd⟩ W hF
  refine uA ?_
  obtain ⟨hbW,hgd,hzz,hd,hD,hlo1,hhi1,hsp,hc4,hC4⟩:=hF
  have hHeld:=(show W.heap[g]? = some (.cells #[.string f.tree.name,.int .u8 f.tree.kind,.string f.tree.data,.slice A f.tree.files.length c,v,.map (some m)] 68 (0,0))∧W.heap[r]? = some (.cells #[.slice Ap x.p.length cp,.slice Ad x.dest.length cd,.string x.data,.int .u8 0,.int .i64 0] 97 (0,0)) from ⟨(I.out _ hbW).2.2.1,(I.out _ hbW).2.1⟩)
  refine pA 15 5 (bq 19 65535) ?_
  refine last_ (i:=16) (N:=none) (bq 19 131071) rfl rfl (by kernel_rfl) (by decide) (fun K hK => ?_)
  obtain ⟨zc0,zc1,zc2,zc3⟩:=c4A hzz
  obtain ⟨zu0,zu1,zu2,zu3⟩:=u4A hzz
  refine sA ?_
  refine hK.out _ _ ?_
  refine pA 17 7 (bq 19 262143) ?_
  refine pA 18 8 (bq 19 524287) ?_
  refine done_ (by kernel_rfl) ?_
  have hq6:=store4_below hbW (g:=gd) hgd (.string y.name) (.int .u8 y.kind) (.string y.data) (.slice A4 y.files.length c4)
  have hd6:=store4_box hzz (.string y.name) (.int .u8 y.kind) (.string y.data) (.slice A4 y.files.length c4)
  replace I:=Lib.hid (Hd.mv I.out hq6)
  replace I:=Lib.hid (Hd.and I.out (Hd.box (hd6)))
  have hIV6:=Lib.hid (hD.mv (w':=((((W.setCell ⟨gd,0,none⟩ (.string y.name)).setCell ⟨gd,1,none⟩ (.int .u8 y.kind)).setCell ⟨gd,2,none⟩ (.string y.data)).setCell ⟨gd,3,none⟩ (.slice A4 y.files.length c4))) fun k h1 h2=>store4_other W (g:=gd) (by omega) _ _ _ _)
  have HCY:=Lib.hid hC4
  have hsz6:((((W.setCell ⟨gd,0,none⟩ (.string y.name)).setCell ⟨gd,1,none⟩ (.int .u8 y.kind)).setCell ⟨gd,2,none⟩ (.string y.data)).setCell ⟨gd,3,none⟩ (.slice A4 y.files.length c4)).heap.size=W.heap.size:=by simp [World.setCell]
  have hhi6:hi1≤((((W.setCell ⟨gd,0,none⟩ (.string y.name)).setCell ⟨gd,1,none⟩ (.int .u8 y.kind)).setCell ⟨gd,2,none⟩ (.string y.data)).setCell ⟨gd,3,none⟩ (.slice A4 y.files.length c4)).heap.size:=by omega
  clear zc0 zc1 zc2 zc3 zu0 zu1 zu2 zu3 hHeld hK hd6 hD hC4 hsz6 hzz hsp hhi1
  generalize ((((W.setCell ⟨gd,0,none⟩ (.string y.name)).setCell ⟨gd,1,none⟩ (.int .u8 y.kind)).setCell ⟨gd,2,none⟩ (.string y.data)).setCell ⟨gd,3,none⟩ (.slice A4 y.files.length c4))=W6 at *
  have hbw6:=I.out.now.2.2.2.2
  have HFS6:=Lib.hid (HFS0.out.below hbw6)
  have hs6:=hbw6.size
  have HR1:=HR.out
  unfold createR at HR1
  rw [HU.out] at HR1
  simp only at HR1
  replace HR1:=Lib.hid HR1
  have HRQ:=Lib.hid I.out.now.2.2.1
  clear HR
  by_cases hk:k=0
  rotate_left
  ·skip
   have HR2:=HR1.out
   rw [if_neg hk] at HR2
   replace HR2:=Lib.hid HR2
   have k1:(k != 0)=true:=by rw [bne_iff_ne];exact hk
   have k1e:(k == 0)=false:=beq_eq_false_iff_ne.2 hk
   clear hk
   go_wp2_with fail
   go_ret
   rw [← HR2.out]
   exact ⟨rfl,HFS6.out.mono (fun k h=>.inl h) (fun k h=>h.elim (fun h=>HFS6.out.lts k h) fun h=>h.2),HRQ.out,Only.of_belowV hbw6 _⟩
  ·skip
   subst hk
   have HR2:=HR1.out
   rw [if_pos rfl] at HR2
   replace HR2:=Lib.hid HR2
   cases is
   ·skip
    have HR4:=HR2.out
    rw [if_neg (fun h=>absurd h.1 (by decide))] at HR4
    replace HR4:=Lib.hid HR4
    have hqs:=walk_sum f.tree x.p true
    have hyb:=walk_bulk f.tree x.p true
    rw [HU.out] at hqs hyb
    simp only at hqs hyb
    have hql:=P.sumP_len q
    have HQN:Hid (∀ n∈q,n.size≤1000000000):=Lib.hid fun n hn=>by have:=sumP_in hn;omega
    have hyd:=bulk_eq y
    have HTB:Hid ((textF ⟨#[]⟩).bulk≤1000000000):=Lib.hid (by
     rw [textF_bulk]
     have h1:(⟨#[]⟩:ByteArray).size=0:=rfl
     omega)
    have HFSM:=Lib.hid (show FsAt W6 g (fun k=>O k∨w.heap.size≤k∧k<W6.heap.size) tb f from HFS6.out.mono (fun k h=>.inl h) (fun k h=>h.elim (fun h=>HFS6.out.lts k h) fun h=>h.2))
    have hhq:hi1≤W6.heap.size:=hhi6
    have HYX:Hid (¬ 9223372036854775807<y.data.size+x.data.size):=Lib.hid (by omega)
    clear hyd
    go_wp2_with fail
    refine (show Calls Tryz.prog 112 #[.pointer (some ⟨g,0,none⟩),.slice B q.length d,.agg #[.string ⟨#[]⟩,.int .u8 2,.string ⟨#[]⟩,.slice none 0 0]] _ _ from put_calls_fs _ g (fun k=>O k∨w.heap.size≤k∧k<W6.heap.size) tb f B d q (textF ⟨#[]⟩) none 0 ((HFSM.out).below (Below.refl W6.heap.size W6)) (by omega) (hIV6.out.mv fun k _ h2=>((Below.refl W6.heap.size W6)).block k (by omega)).now hd (by omega) HQN.out (Kd.C_nil FileK _) (Nat.le_refl _) HTB.out).mono ?_
    rintro e w9 ⟨rfl,hfs9,ho9⟩
    have hr9:=ho9.block r (Nat.lt_of_lt_of_le hrl hs6) hrg
    go_wp2_with fail
    go_ret
    rw [← HR4.out]
    have ho6:Only (fun k=>k=g) W6 w9:=⟨ho9.os,ho9.tape,ho9.output,ho9.size,ho9.block⟩
    have hs9:=ho6.size
    exact ⟨rfl,hfs9.mono (fun k h=>h.elim (fun h=>h.elim .inl fun h=>.inr ⟨h.1,by omega⟩) fun h=>.inr ⟨Nat.le_trans hs6 h.1,h.2⟩) (fun k h=>h.elim (fun h=>Nat.lt_of_lt_of_le (HFS6.out.lts k h) hs9) fun h=>h.2),hr9.trans HRQ.out,(Only.of_belowV hbw6 (fun k=>k=g∨k=r)).trans ho6 (fun _ _ h=>h) (fun _ _ h=>.inl h)⟩
   ·skip
    by_cases hy:y.kind=1
    ·skip
     have HR4:=HR2.out
     rw [if_pos ⟨rfl,hy⟩] at HR4
     replace HR4:=Lib.hid HR4
     have k2:(y.kind == 1)=true:=beq_iff_eq.2 hy
     clear hy
     obtain ⟨ly0,ly1,ly2,ly3⟩:=c4A I.out.now.1
     go_wp2_with fail
     go_ret
     rw [← HR4.out]
     exact ⟨rfl,HFS6.out.mono (fun k h=>.inl h) (fun k h=>h.elim (fun h=>HFS6.out.lts k h) fun h=>h.2),HRQ.out,Only.of_belowV hbw6 _⟩
    ·skip
     have HR4:=HR2.out
     rw [if_neg (fun h=>hy h.2)] at HR4
     replace HR4:=Lib.hid HR4
     have k2:(y.kind == 1)=false:=beq_eq_false_iff_ne.2 hy
     clear hy
     obtain ⟨ly0,ly1,ly2,ly3⟩:=c4A I.out.now.1
     have hqs:=walk_sum f.tree x.p true
     have hyb:=walk_bulk f.tree x.p true
     rw [HU.out] at hqs hyb
     simp only at hqs hyb
     have hql:=P.sumP_len q
     have HQN:Hid (∀ n∈q,n.size≤1000000000):=Lib.hid fun n hn=>by have:=sumP_in hn;omega
     have hyd:=bulk_eq y
     have HTB:Hid ((textF ⟨#[]⟩).bulk≤1000000000):=Lib.hid (by
      rw [textF_bulk]
      have h1:(⟨#[]⟩:ByteArray).size=0:=rfl
      omega)
     have HFSM:=Lib.hid (show FsAt W6 g (fun k=>O k∨w.heap.size≤k∧k<W6.heap.size) tb f from HFS6.out.mono (fun k h=>.inl h) (fun k h=>h.elim (fun h=>HFS6.out.lts k h) fun h=>h.2))
     have hhq:hi1≤W6.heap.size:=hhi6
     have HYX:Hid (¬ 9223372036854775807<y.data.size+x.data.size):=Lib.hid (by omega)
     clear hyd
     go_wp2_with fail
     refine (show Calls Tryz.prog 112 #[.pointer (some ⟨g,0,none⟩),.slice B q.length d,.agg #[.string ⟨#[]⟩,.int .u8 2,.string ⟨#[]⟩,.slice none 0 0]] _ _ from put_calls_fs _ g (fun k=>O k∨w.heap.size≤k∧k<W6.heap.size) tb f B d q (textF ⟨#[]⟩) none 0 ((HFSM.out).below (Below.refl W6.heap.size W6)) (by omega) (hIV6.out.mv fun k _ h2=>((Below.refl W6.heap.size W6)).block k (by omega)).now hd (by omega) HQN.out (Kd.C_nil FileK _) (Nat.le_refl _) HTB.out).mono ?_
     rintro e w9 ⟨rfl,hfs9,ho9⟩
     have hr9:=ho9.block r (Nat.lt_of_lt_of_le hrl hs6) hrg
     go_wp2_with fail
     go_ret
     rw [← HR4.out]
     have ho6:Only (fun k=>k=g) W6 w9:=⟨ho9.os,ho9.tape,ho9.output,ho9.size,ho9.block⟩
     have hs9:=ho6.size
     exact ⟨rfl,hfs9.mono (fun k h=>h.elim (fun h=>h.elim .inl fun h=>.inr ⟨h.1,by omega⟩) fun h=>.inr ⟨Nat.le_trans hs6 h.1,h.2⟩) (fun k h=>h.elim (fun h=>Nat.lt_of_lt_of_le (HFS6.out.lts k h) hs9) fun h=>h.2),hr9.trans HRQ.out,(Only.of_belowV hbw6 (fun k=>k=g∨k=r)).trans ho6 (fun _ _ h=>h) (fun _ _ h=>.inl h)⟩
end Go.Proofs.YthlcjjhfkldmhaaGreatDoor.G
end
section
section
namespace Go.Proofs.YthlcjjhfkldmhaaGreatDoor.G
open Go.RowKit Go.Lib Go.Proofs.YthlcjjhfkldmhaaGreatDoorW.PrintWords Go.Proofs.YthlcjjhfkldmhaaGreatDoorW.PrintLast
set_option linter.unusedVariables false
set_option linter.unusedSimpArgs false
set_option maxHeartbeats 8000000 in
set_option maxRecDepth 100000 in
theorem lstat_fs (w:World) (g r:Nat) (O:Nat→Prop) (tb:Option Nat) (f:FsV) (x:Req) (Ap:Option Addr) (cp:Nat) (Ad:Option Addr) (cd:Nat) (hfs:FsAt w g O tb f) (hreq:w.heap[r]? = some (.cells #[.slice Ap x.p.length cp,.slice Ad x.dest.length cd,.string x.data,.int .u8 0,.int .i64 0] 97 (0,0))) (hrg:r≠g) (hrO:¬ O r) (hbt:f.tree.bulk≤100000000) (hp:Kd.C Kd.string w Ap x.p.length x.p) (hcp:x.p.length≤cp) (hps:P.sumP x.p≤1024) (hdb:x.data.size≤100000000) :
  Calls Tryz.prog 96 #[.pointer (some ⟨g,0,none⟩),.pointer (some ⟨r,0,none⟩)] w fun e w'=>OpPost w g r O tb f x Ap cp Ad cd (lstatR f.tree x) e w':=by
 have HFS0:=Lib.hid hfs
 obtain ⟨A,c,v,m,lo,hi,hbox,hle,hiv,hsep,htr,htb,hfl,hOm,hOlt⟩:=hfs
 unfold fsCells at hbox
 have hgl:=blk_lt hbox
 have hrl:=blk_lt hreq
 have HS:=Lib.hid (fun W (h:Below w.heap.size w W)=>hiv W fun k h1 h2=>h.block k (hOlt k (hsep k h1 h2).1))
 have hlen:=P.sumP_len x.p
 have hb0:=Below.refl w.heap.size w
 have I:=Lib.hid (Hd.base hb0 (by first | exact Nat.le_refl _ | exact Below.size hb0))
 replace I:=Lib.hid (Hd.and I.out (Hd.box hbox))
 replace I:=Lib.hid (Hd.and I.out (Hd.box hreq))
 replace I:=Lib.hid (Hd.and I.out (Hd.reads (hp)))
 obtain ⟨⟨q,y,is,k⟩,hu⟩:∃ r,walkR f.tree x.p false=r:=⟨_,rfl⟩
 have HU:=Lib.hid hu
 have HRES:=Lib.hid (show lstatR f.tree x=lstatR f.tree x from rfl)
 obtain ⟨res,hres⟩:∃ r,lstatR f.tree x=r:=⟨_,rfl⟩
 have HR:=Lib.hid (show _=res from hres)
 rw [hres]
 clear hu hres HRES hiv hsep htr hfl hOm hOlt hp hbox htb hreq
 go_enter Tryz.func96,Tryz.ntmps96
 go_wp2_with fail
 refine start_ (n:=19) (S:=fun w'=>w'.heap[g]? = some (.cells #[.string f.tree.name,.int .u8 f.tree.kind,.string f.tree.data,.slice A f.tree.files.length c,v,.map (some m)] 68 (0,0))∧w'.heap[r]? = some (.cells #[.slice Ap x.p.length cp,.slice Ad x.dest.length cd,.string x.data,.int .u8 0,.int .i64 0] 97 (0,0))) (ds:=[16]) (bq 19 0) (by kernel_rfl) rfl rfl ⟨(I.out _ (bdrew (Below.refl w.heap.size w))).2.2.1,(I.out _ (bdrew (Below.refl w.heap.size w))).2.1⟩ (fun hHeld => ?_)
 refine pA 0 10 (bq 19 1) ?_
 refine pA 1 11 (bq 19 3) ?_
 refine pA 2 12 (bq 19 7) ?_
 refine pA 4 14 (bq 19 23) ?_
 refine pA 5 15 (bq 19 55) ?_
 refine pA 6 16 (bq 19 119) ?_
 refine tA 3 13 (bq 19 127) hHeld ?_ (hy:=by
  rintro w' ⟨s0,s1⟩
  have q0:=cell_of (j:=0) s0 rfl
  have q1:=cell_of (j:=1) s0 rfl
  have q2:=cell_of (j:=2) s0 rfl
  have q3:=cell_of (j:=3) s0 rfl
  have q4:=cell_of (j:=4) s0 rfl
  have q5:=cell_of (j:=5) s0 rfl
  go_simp
  with_reducible rfl)
 refine tA 7 17 (bq 19 255) hHeld ?_ (hy:=by
  rintro w' ⟨s0,s1⟩
  have q0:=cell_of (j:=0) s1 rfl
  have q1:=cell_of (j:=1) s1 rfl
  have q2:=cell_of (j:=2) s1 rfl
  have q3:=cell_of (j:=3) s1 rfl
  have q4:=cell_of (j:=4) s1 rfl
  go_simp
  with_reducible rfl)
 refine join_ (σ:=(Option Addr×Nat×Option Addr×Nat×Nat×Nat)×Nat) 4 (bq 19 32767) (fun s=>match s with | ((B,d,A4,c4,lo1,hi1),gd)=>[(18,.tuple #[.slice B q.length d,.agg (fc y A4 c4),.bool is,.int .i64 k]),(9,.tuple #[.slice B q.length d,.agg (fc y A4 c4),.bool is,.int .i64 k]),(19,.slice B q.length d),(20,.agg (fc y A4 c4)),(21,.bool is),(22,.int .i64 k),(6,.pointer (some ⟨gd,0,none⟩))]) (fun s W=>match s with | ((B,d,A4,c4,lo1,hi1),gd)=>Below w.heap.size w W∧w.heap.size≤gd∧W.heap[gd]? = some (.cells zC 25 (0,0))∧q.length≤d∧Iv lo1 hi1 W (fun W=>Kd.C Kd.string W B q.length q)∧w.heap.size≤lo1∧hi1≤W.heap.size∧(gd<lo1∨hi1≤gd)∧y.files.length≤c4∧FileK.C w A4 y.files.length y.files) ?_ ?_
 rotate_left
 ·intro hc
  refine two_ (i:=8) (j:=14) (Ni:=some 18) (Nj:=some 6) (bq 19 511) (bq 19 16639) rfl rfl rfl rfl (by kernel_rfl) (by decide) (by decide) (fun K hK => ?_) (fun K hK => ?_)
  ·refine gA Tryz.func37 #[.agg (fc f.tree A c),.slice Ap x.p.length cp,.bool false] ?_
   refine ((show Calls Tryz.prog 37 #[.agg (fc f.tree A c),.slice Ap x.p.length cp,.bool false] _ _ from walk_calls f.tree A c Ap cp x.p false _ w ((bdrew (Below.refl w.heap.size w))) (HS.out w (Below.refl _ _)) hle (by omega) (I.out _ (bdrew (Below.refl w.heap.size w))).1 hcp (by omega) (by omega))).mono ?_
   rw [HU.out]
   rintro e w5 ⟨B,d,A4,c4,rfl,hd,hD,hc4,hC4,hq5⟩
   refine ⟨_,rfl,?_⟩
   refine hK.out _ _ (⟨(I.out _ ((bdrew (Below.refl w.heap.size w)).trans hq5)).2.2.1,(I.out _ ((bdrew (Below.refl w.heap.size w)).trans hq5)).2.1⟩) (fun _ => ?_)
   refine nA 18 ?_
   refine pA 9 9 (bq 19 1023) ?_
   refine pA 10 19 (bq 19 2047) ?_
   refine pA 11 20 (bq 19 4095) ?_
   refine pA 12 21 (bq 19 8191) ?_
   refine pA 13 22 (bq 19 16383) ?_
   refine eA 14 6 (bq 19 32767) (fun K hK => ?_)
   refine vA ?_
   refine hK.out _ _ (⟨(I.out _ (below_alloc ((bdrew (Below.refl w.heap.size w)).trans hq5) _)).2.2.1,(I.out _ (below_alloc ((bdrew (Below.refl w.heap.size w)).trans hq5) _)).2.1⟩) (fun _ => ?_)
   refine jA (hc ((B,d,A4,c4,w.drew.heap.size,w5.heap.size),w5.heap.size) _ (⟨below_alloc ((bdrew (Below.refl w.heap.size w)).trans hq5) _,((bdrew (Below.refl w.heap.size w)).trans hq5).size,blk_new w5 _,hd,Iv.mv hD fun k _ h2=>(below_alloc (Below.refl w5.heap.size w5) _).block k h2,(bdrew (Below.refl w.heap.size w)).size,(below_alloc (Below.refl w5.heap.size w5) _).size,.inr (Nat.le_refl _),hc4,hC4⟩))
  ·refine vA ?_
   refine hK.out _ _ (⟨(I.out _ (below_alloc (bdrew (Below.refl w.heap.size w)) (.cells zC 25))).2.2.1,(I.out _ (below_alloc (bdrew (Below.refl w.heap.size w)) (.cells zC 25))).2.1⟩) (fun _ => ?_)
   refine nA 6 ?_
   refine eA 8 18 (bq 19 16895) (fun K hK => ?_)
   refine gA Tryz.func37 #[.agg (fc f.tree A c),.slice Ap x.p.length cp,.bool false] ?_
   refine ((show Calls Tryz.prog 37 #[.agg (fc f.tree A c),.slice Ap x.p.length cp,.bool false] _ _ from walk_calls f.tree A c Ap cp x.p false _ w ((below_alloc (bdrew (Below.refl w.heap.size w)) (.cells zC 25))) (HS.out w (Below.refl _ _)) hle (by omega) (I.out _ (below_alloc (bdrew (Below.refl w.heap.size w)) (.cells zC 25))).1 hcp (by omega) (by omega))).mono ?_
   rw [HU.out]
   rintro e w5 ⟨B,d,A4,c4,rfl,hd,hD,hc4,hC4,hq5⟩
   refine ⟨_,rfl,?_⟩
   refine hK.out _ _ (⟨(I.out _ ((below_alloc (bdrew (Below.refl w.heap.size w)) (.cells zC 25)).trans (hq5.mono (below_alloc (Below.refl w.drew.heap.size w.drew) (.cells zC 25)).size))).2.2.1,(I.out _ ((below_alloc (bdrew (Below.refl w.heap.size w)) (.cells zC 25)).trans (hq5.mono (below_alloc (Below.refl w.drew.heap.size w.drew) (.cells zC 25)).size))).2.1⟩) (fun _ => ?_)
   refine nA 18 ?_
   refine pA 9 9 (bq 19 17407) ?_
   refine pA 10 19 (bq 19 18431) ?_
   refine pA 11 20 (bq 19 20479) ?_
   refine pA 12 21 (bq 19 24575) ?_
   refine pA 13 22 (bq 19 32767) ?_
   refine jA (hc ((B,d,A4,c4,(w.drew.alloc (.cells zC 25)).heap.size,w5.heap.size),w.heap.size) _ (⟨((below_alloc (bdrew (Below.refl w.heap.size w)) (.cells zC 25)).trans (hq5.mono (below_alloc (Below.refl w.drew.heap.size w.drew) (.cells zC 25)).size)),Nat.le_refl _,(hq5.block _ (blk_lt (blk_new w.drew (.cells zC 25)))).trans (blk_new w.drew (.cells zC 25)),hd,hD,(below_alloc (bdrew (Below.refl w.heap.size w)) (.cells zC 25)).size,Nat.le_refl _,.inl (blk_lt (blk_new w.drew (.cells zC 25))),hc4,hC4⟩))
 ·rintro ⟨⟨B,d,A4,c4,lo1,hi1⟩,gd⟩ W hF
  refine uA ?_
  obtain ⟨hbW,hgd,hzz,hd,hD,hlo1,hhi1,hsp,hc4,hC4⟩:=hF
  have hHeld:=(show W.heap[g]? = some (.cells #[.string f.tree.name,.int .u8 f.tree.kind,.string f.tree.data,.slice A f.tree.files.length c,v,.map (some m)] 68 (0,0))∧W.heap[r]? = some (.cells #[.slice Ap x.p.length cp,.slice Ad x.dest.length cd,.string x.data,.int .u8 0,.int .i64 0] 97 (0,0)) from ⟨(I.out _ hbW).2.2.1,(I.out _ hbW).2.1⟩)
  refine pA 15 5 (bq 19 65535) ?_
  refine last_ (i:=16) (N:=none) (bq 19 131071) rfl rfl (by kernel_rfl) (by decide) (fun K hK => ?_)
  obtain ⟨zc0,zc1,zc2,zc3⟩:=c4A hzz
  obtain ⟨zu0,zu1,zu2,zu3⟩:=u4A hzz
  refine sA ?_
  refine hK.out _ _ ?_
  refine pA 17 7 (bq 19 262143) ?_
  refine pA 18 8 (bq 19 524287) ?_
  refine done_ (by kernel_rfl) ?_
  have hq6:=store4_below hbW (g:=gd) hgd (.string y.name) (.int .u8 y.kind) (.string y.data) (.slice A4 y.files.length c4)
  have hd6:=store4_box hzz (.string y.name) (.int .u8 y.kind) (.string y.data) (.slice A4 y.files.length c4)
  replace I:=Lib.hid (Hd.mv I.out hq6)
  replace I:=Lib.hid (Hd.and I.out (Hd.box (hd6)))
  have hIV6:=Lib.hid (hD.mv (w':=((((W.setCell ⟨gd,0,none⟩ (.string y.name)).setCell ⟨gd,1,none⟩ (.int .u8 y.kind)).setCell ⟨gd,2,none⟩ (.string y.data)).setCell ⟨gd,3,none⟩ (.slice A4 y.files.length c4))) fun k h1 h2=>store4_other W (g:=gd) (by omega) _ _ _ _)
  have HCY:=Lib.hid hC4
  have hsz6:((((W.setCell ⟨gd,0,none⟩ (.string y.name)).setCell ⟨gd,1,none⟩ (.int .u8 y.kind)).setCell ⟨gd,2,none⟩ (.string y.data)).setCell ⟨gd,3,none⟩ (.slice A4 y.files.length c4)).heap.size=W.heap.size:=by simp [World.setCell]
  have hhi6:hi1≤((((W.setCell ⟨gd,0,none⟩ (.string y.name)).setCell ⟨gd,1,none⟩ (.int .u8 y.kind)).setCell ⟨gd,2,none⟩ (.string y.data)).setCell ⟨gd,3,none⟩ (.slice A4 y.files.length c4)).heap.size:=by omega
  clear zc0 zc1 zc2 zc3 zu0 zu1 zu2 zu3 hHeld hK hd6 hD hC4 hsz6 hzz hsp hhi1
  generalize ((((W.setCell ⟨gd,0,none⟩ (.string y.name)).setCell ⟨gd,1,none⟩ (.int .u8 y.kind)).setCell ⟨gd,2,none⟩ (.string y.data)).setCell ⟨gd,3,none⟩ (.slice A4 y.files.length c4))=W6 at *
  have hbw6:=I.out.now.2.2.2.2
  have HFS6:=Lib.hid (HFS0.out.below hbw6)
  have hs6:=hbw6.size
  have HR1:=HR.out
  unfold lstatR at HR1
  rw [HU.out] at HR1
  simp only at HR1
  replace HR1:=Lib.hid HR1
  have HRQ:=Lib.hid I.out.now.2.2.1
  clear HR
  by_cases hk:k=0
  rotate_left
  ·skip
   have HR2:=HR1.out
   rw [if_neg hk] at HR2
   replace HR2:=Lib.hid HR2
   have k1:(k != 0)=true:=by rw [bne_iff_ne];exact hk
   have k1e:(k == 0)=false:=beq_eq_false_iff_ne.2 hk
   clear hk
   go_wp2_with fail
   go_ret
   rw [← HR2.out]
   exact ⟨rfl,HFS6.out.mono (fun k h=>.inl h) (fun k h=>h.elim (fun h=>HFS6.out.lts k h) fun h=>h.2),HRQ.out,Only.of_belowV hbw6 _⟩
  ·skip
   subst hk
   have HR2:=HR1.out
   rw [if_pos rfl] at HR2
   replace HR2:=Lib.hid HR2
   cases is
   ·skip
    have HR3:=HR2.out
    rw [if_neg (by decide)] at HR3
    replace HR3:=Lib.hid HR3
    go_wp2_with fail
    go_ret
    rw [← HR3.out]
    exact ⟨rfl,HFS6.out.mono (fun k h=>.inl h) (fun k h=>h.elim (fun h=>HFS6.out.lts k h) fun h=>h.2),HRQ.out,Only.of_belowV hbw6 _⟩
   ·skip
    have HR4:=HR2.out
    rw [if_pos rfl] at HR4
    replace HR4:=Lib.hid HR4
    obtain ⟨ly0,ly1,ly2,ly3⟩:=c4A I.out.now.1
    have zr3:=cell_of (j:=3) HRQ.out rfl
    have ur3:=unfr HRQ.out 3
    have zr4:=cell_of (j:=4) HRQ.out rfl
    have ur4:=unfr HRQ.out 4
    go_wp2_with fail
    go_ret
    rw [← HR4.out]
    have hne:∀ k,k=g∨O k→k≠r:=fun k h e=>h.elim (fun h=>hrg (e.symm.trans h)) fun h=>hrO (e ▸ h)
    have hkp:FsAt ((W6.setCell ⟨r,3,none⟩ (.int .u8 y.kind)).setCell ⟨r,4,none⟩ (.int .i64 y.data.size)) g O tb f:=(HFS6.out.keep (fun k h=>Below.heap_setCell _ _ _ _ (hne k h)) (by simp [World.setCell])).keep (fun k h=>Below.heap_setCell _ _ _ _ (hne k h)) (by simp [World.setCell])
    exact ⟨rfl,hkp.mono (fun k h=>.inl h) (fun k h=>h.elim (fun h=>hkp.lts k h) fun h=>h.2),blk_put (blk_put HRQ.out 3 (.int .u8 y.kind) rfl) 4 (.int .i64 y.data.size) rfl,((Only.of_belowV hbw6 (fun k=>k=g∨k=r)).trans (Only.setCell W6 ⟨r,3,none⟩ (.int .u8 y.kind)) (fun _ _ h=>h) (fun _ _ h=>.inr h)).trans (Only.setCell _ ⟨r,4,none⟩ (.int .i64 y.data.size)) (fun _ _ h=>h) (fun _ _ h=>.inr h)⟩
end Go.Proofs.YthlcjjhfkldmhaaGreatDoor.G
end
section
namespace Go.Proofs.YthlcjjhfkldmhaaGreatDoor.G
open Go.RowKit Go.Lib Go.Proofs.YthlcjjhfkldmhaaGreatDoorW.PrintWords Go.Proofs.YthlcjjhfkldmhaaGreatDoorW.PrintLast
set_option linter.unusedVariables false
theorem toList_injV {x y:ByteArray}:x.toList=y.toList↔x=y:=by
 rw [Lib.toList_data,Lib.toList_data]
 constructor
 ·intro h
  exact ByteArray.ext (Array.toList_inj.1 h)
 ·rintro rfl;rfl
def AlikeV (a b:List ByteArray) (k:Nat):Prop:=∀ j:Nat,j<k→rdOf ByteArray.empty a (j:Int)=rdOf ByteArray.empty b (j:Int)
theorem AlikeV.all {a b:List ByteArray} (hl:a.length=b.length) (h:AlikeV a b a.length):a=b :=
 List.ext_getElem hl fun j h1 h2=>by
  have h3:=h j h1
  simpa [rdOf,h1,h2] using h3
theorem AlikeV.not {a b:List ByteArray} {k:Nat} (h:rdOf ByteArray.empty a (k:Int)≠rdOf ByteArray.empty b (k:Int)):¬ a=b:=fun e=>h (by rw [e])
set_option maxHeartbeats 4000000 in
theorem eqP_calls (A:Option Addr) (c:Nat) (a:List ByteArray) (B:Option Addr) (d:Nat) (b:List ByteArray) (w:World) (hr:Kd.C Kd.string w A a.length a) (hc:a.length≤c) (hs:Kd.C Kd.string w B b.length b) (hd:b.length≤d) (hl:a.length≤8796093022208) :
  Calls Tryz.prog 113 #[.slice A a.length c,.slice B b.length d] w fun e w'=>e=.returned (.bool (decide (a=b)))∧∃ n,w'=w.drewN n:=by
 have HR:=Lib.hid hr
 have HS:=Lib.hid hs
 by_cases hab:a.length=b.length
 ·have HE:=Lib.hid hab
  have hk2:a.length≤b.length:=Nat.le_of_eq hab
  rw [← hab]
  clear hr hs hab
  go_enter Tryz.func113,Tryz.ntmps113
  go_wp2
  go_loopw [13] (fun i wr=>∃ k n:Nat,k≤a.length∧i=.int .i64 k∧wr=w.drewN n∧Hid (AlikeV a b k)) (fun i _=>a.length - (RowKit.intOf i).toNat)
  case atStart=>exact ⟨0,0,by omega,rfl,rfl,Lib.hid (fun j hj=>by omega)⟩
  case round =>
   obtain ⟨k,n,hk1,rfl,rfl,HA⟩:=hrel
   by_cases q1:k<a.length
   ·have z1:decide ((k:Int)<(a.length:Int))=true:=decide_eq_true (by omega)
    obtain ⟨ad,rfl,hx⟩:=Kd.at_string HR.out (k:Int) (by omega) (by omega)
    obtain ⟨bd,rfl,hy⟩:=Kd.at_string HS.out (k:Int) (by omega) (by omega)
    rw [Int.toNat_natCast] at hx hy
    obtain ⟨x,hxe⟩:∃ x,rdOf ByteArray.empty a (k:Int)=x:=⟨_,rfl⟩
    obtain ⟨y,hye⟩:∃ y,rdOf ByteArray.empty b (k:Int)=y:=⟨_,rfl⟩
    rw [hxe] at hx
    rw [hye] at hy
    have HX:=Lib.hid hxe
    have HY:=Lib.hid hye
    clear hxe hye
    by_cases q3:x=y
    ·have z3:(x.toList == y.toList)=true:=beq_iff_eq.2 (toList_injV.2 q3)
     have H3:=Lib.hid q3
     clear q3
     go_wp2
     go_quiet (fail)
     go_wp2
     go_roundw
     case rel=>exact ⟨k+1,_,by omega,by go_num,by first | rfl | (simp only [World.drewN_drewN];rfl),Lib.hid (fun j hj=>by
      by_cases e:j=k
      ·subst e;rw [HX.out,HY.out];exact H3.out
      ·exact HA.out j (by omega))⟩
     case measure=>simp [RowKit.intOf];omega
    ·have z3:(x.toList == y.toList)=false:=beq_eq_false_iff_ne.2 (fun h=>q3 (toList_injV.1 h))
     have H3:=Lib.hid q3
     clear q3
     go_wp2
     go_quiet (fail)
     go_wp2
     go_ret
     exact ⟨by rw [decide_eq_false (AlikeV.not (k:=k) (by rw [HX.out,HY.out];exact H3.out))];rfl,_,by first | rfl | (simp only [World.drewN_drewN];rfl)⟩
   ·have z1:decide ((k:Int)<(a.length:Int))=false:=decide_eq_false (by omega)
    have hkk:k=a.length:=by omega
    have HK:=Lib.hid hkk
    clear hkk
    go_wp2
    go_ret
    exact ⟨by rw [decide_eq_true (AlikeV.all HE.out (by have:=HA.out;rw [HK.out] at this;exact this))];rfl,_,by first | rfl | (simp only [World.drewN_drewN];rfl)⟩
 ·have hnm:¬ (a.length:Int)=(b.length:Int):=by omega
  have HN:=Lib.hid (show ¬ a=b from fun e=>hab (by rw [e]))
  clear hr hs hab
  go_enter Tryz.func113,Tryz.ntmps113
  go_wp2
  go_ret
  exact ⟨by rw [decide_eq_false HN.out];rfl,0,rfl⟩
theorem eqP_below (A:Option Addr) (c:Nat) (a:List ByteArray) (B:Option Addr) (d:Nat) (b:List ByteArray) (w:World) (hr:Kd.C Kd.string w A a.length a) (hc:a.length≤c) (hs:Kd.C Kd.string w B b.length b) (hd:b.length≤d) (hl:a.length≤8796093022208) :
  Calls Tryz.prog 113 #[.slice A a.length c,.slice B b.length d] w fun e w'=>e=.returned (.bool (decide (a=b)))∧Below w.heap.size w w' :=
 (eqP_calls A c a B d b w hr hc hs hd hl).mono (by
  rintro e w' ⟨h1,n,rfl⟩
  exact ⟨h1,bdrewN (Below.refl _ _) n⟩)
end Go.Proofs.YthlcjjhfkldmhaaGreatDoor.G
end
end
section
namespace Go.Proofs.YthlcjjhfkldmhaaGreatDoor.G
open Go.RowKit Go.Lib Go.Proofs.YthlcjjhfkldmhaaGreatDoorW.PrintWords Go.Proofs.YthlcjjhfkldmhaaGreatDoorW.PrintLast
set_option linter.unusedVariables false
set_option linter.unusedSimpArgs false
set_option maxHeartbeats 8000000 in
set_option maxRecDepth 100000 in
theorem rename_fs (w:World) (g r:Nat) (O:Nat→Prop) (tb:Option Nat) (f:FsV) (x:Req) (Ap:Option Addr) (cp:Nat) (Ad:Option Addr) (cd:Nat) (hfs:FsAt w g O tb f) (hreq:w.heap[r]? = some (.cells #[.slice Ap x.p.length cp,.slice Ad x.dest.length cd,.string x.data,.int .u8 0,.int .i64 0] 97 (0,0))) (hrg:r≠g) (hrO:¬ O r) (hbt:f.tree.bulk≤100000000) (hp:Kd.C Kd.string w Ap x.p.length x.p) (hcp:x.p.length≤cp) (hps:P.sumP x.p≤1024) (hpd:Kd.C Kd.string w Ad x.dest.length x.dest) (hcd:x.dest.length≤cd) (hpt:P.sumP x.dest≤1024) (hdb:x.data.size≤100000000) :
  Calls Tryz.prog 100 #[.pointer (some ⟨g,0,none⟩),.pointer (some ⟨r,0,none⟩)] w fun e w'=>OpPost w g r O tb f x Ap cp Ad cd (renameR f.tree x) e w':=by
 have HFS0:=Lib.hid hfs
 obtain ⟨A,c,v,m,lo,hi,hbox,hle,hiv,hsep,htr,htb,hfl,hOm,hOlt⟩:=hfs
 unfold fsCells at hbox
 have hgl:=blk_lt hbox
 have hrl:=blk_lt hreq
 have HS:=Lib.hid (fun W (h:Below w.heap.size w W)=>hiv W fun k h1 h2=>h.block k (hOlt k (hsep k h1 h2).1))
 have HFSK:=Lib.hid (And.intro hle (And.intro hiv (And.intro hsep (And.intro htr (And.intro htb (And.intro hfl (And.intro hOm hOlt)))))))
 have hlen:=P.sumP_len x.p
 have hlen2:=P.sumP_len x.dest
 have hb0:=Below.refl w.heap.size w
 have I:=Lib.hid (Hd.base hb0 (by first | exact Nat.le_refl _ | exact Below.size hb0))
 replace I:=Lib.hid (Hd.and I.out (Hd.box hbox))
 replace I:=Lib.hid (Hd.and I.out (Hd.box hreq))
 replace I:=Lib.hid (Hd.and I.out (Hd.reads (hp)))
 replace I:=Lib.hid (Hd.and I.out (Hd.reads (hpd)))
 obtain ⟨⟨q,y,is,k⟩,hu⟩:∃ r,walkR f.tree x.p false=r:=⟨_,rfl⟩
 obtain ⟨⟨q2,z,is2,k2⟩,hu2⟩:∃ r,walkR f.tree x.dest false=r:=⟨_,rfl⟩
 have HU:=Lib.hid hu
 have HU2:=Lib.hid hu2
 obtain ⟨res,hres⟩:∃ r,renameR f.tree x=r:=⟨_,rfl⟩
 have HR:=Lib.hid (show _=res from hres)
 rw [hres]
 clear hu hu2 hres hiv hsep htr hfl hOm hOlt hp hpd hbox htb hreq
 go_enter Tryz.func100,Tryz.ntmps100
 go_wp2_with fail
 refine start_ (n:=19) (S:=fun w'=>w'.heap[g]? = some (.cells #[.string f.tree.name,.int .u8 f.tree.kind,.string f.tree.data,.slice A f.tree.files.length c,v,.map (some m)] 68 (0,0))∧w'.heap[r]? = some (.cells #[.slice Ap x.p.length cp,.slice Ad x.dest.length cd,.string x.data,.int .u8 0,.int .i64 0] 97 (0,0))) (ds:=[16]) (bq 19 0) (by kernel_rfl) rfl rfl ⟨(I.out _ (bdrew (Below.refl w.heap.size w))).2.2.2.1,(I.out _ (bdrew (Below.refl w.heap.size w))).2.2.1⟩ (fun hHeld => ?_)
 refine pA 0 13 (bq 19 1) ?_
 refine pA 1 14 (bq 19 3) ?_
 refine pA 2 15 (bq 19 7) ?_
 refine pA 4 17 (bq 19 23) ?_
 refine pA 5 18 (bq 19 55) ?_
 refine pA 6 19 (bq 19 119) ?_
 refine tA 3 16 (bq 19 127) hHeld ?_ (hy:=by
  rintro w' ⟨s0,s1⟩
  have q0:=cell_of (j:=0) s0 rfl
  have q1:=cell_of (j:=1) s0 rfl
  have q2:=cell_of (j:=2) s0 rfl
  have q3:=cell_of (j:=3) s0 rfl
  have q4:=cell_of (j:=4) s0 rfl
  have q5:=cell_of (j:=5) s0 rfl
  go_simp
  with_reducible rfl)
 refine tA 7 20 (bq 19 255) hHeld ?_ (hy:=by
  rintro w' ⟨s0,s1⟩
  have q0:=cell_of (j:=0) s1 rfl
  have q1:=cell_of (j:=1) s1 rfl
  have q2:=cell_of (j:=2) s1 rfl
  have q3:=cell_of (j:=3) s1 rfl
  have q4:=cell_of (j:=4) s1 rfl
  go_simp
  with_reducible rfl)
 refine join_ (σ:=(Option Addr×Nat×Option Addr×Nat×Nat×Nat)×Nat) 4 (bq 19 32767) (fun s=>match s with | ((B,d,A4,c4,lo1,hi1),gd)=>[(21,.tuple #[.slice B q.length d,.agg (fc y A4 c4),.bool is,.int .i64 k]),(12,.tuple #[.slice B q.length d,.agg (fc y A4 c4),.bool is,.int .i64 k]),(22,.slice B q.length d),(23,.agg (fc y A4 c4)),(24,.bool is),(25,.int .i64 k),(6,.pointer (some ⟨gd,0,none⟩))]) (fun s W=>match s with | ((B,d,A4,c4,lo1,hi1),gd)=>Below w.heap.size w W∧w.heap.size≤gd∧W.heap[gd]? = some (.cells zC 25 (0,0))∧q.length≤d∧Iv lo1 hi1 W (fun W=>Kd.C Kd.string W B q.length q)∧w.heap.size≤lo1∧hi1≤W.heap.size∧(gd<lo1∨hi1≤gd)∧y.files.length≤c4∧FileK.C w A4 y.files.length y.files) ?_ ?_
 rotate_left
 ·intro hc
  refine two_ (i:=8) (j:=14) (Ni:=some 21) (Nj:=some 6) (bq 19 511) (bq 19 16639) rfl rfl rfl rfl (by kernel_rfl) (by decide) (by decide) (fun K hK => ?_) (fun K hK => ?_)
  ·refine gA Tryz.func37 #[.agg (fc f.tree A c),.slice Ap x.p.length cp,.bool false] ?_
   refine ((show Calls Tryz.prog 37 #[.agg (fc f.tree A c),.slice Ap x.p.length cp,.bool false] _ _ from walk_calls f.tree A c Ap cp x.p false _ w ((bdrew (Below.refl w.heap.size w))) (HS.out w (Below.refl _ _)) hle (by omega) (I.out _ (bdrew (Below.refl w.heap.size w))).2.1 hcp (by omega) (by omega))).mono ?_
   rw [HU.out]
   rintro e w5 ⟨B,d,A4,c4,rfl,hd,hD,hc4,hC4,hq5⟩
   refine ⟨_,rfl,?_⟩
   refine hK.out _ _ (⟨(I.out _ ((bdrew (Below.refl w.heap.size w)).trans hq5)).2.2.2.1,(I.out _ ((bdrew (Below.refl w.heap.size w)).trans hq5)).2.2.1⟩) (fun _ => ?_)
   refine nA 21 ?_
   refine pA 9 12 (bq 19 1023) ?_
   refine pA 10 22 (bq 19 2047) ?_
   refine pA 11 23 (bq 19 4095) ?_
   refine pA 12 24 (bq 19 8191) ?_
   refine pA 13 25 (bq 19 16383) ?_
   refine eA 14 6 (bq 19 32767) (fun K hK => ?_)
   refine vA ?_
   refine hK.out _ _ (⟨(I.out _ (below_alloc ((bdrew (Below.refl w.heap.size w)).trans hq5) _)).2.2.2.1,(I.out _ (below_alloc ((bdrew (Below.refl w.heap.size w)).trans hq5) _)).2.2.1⟩) (fun _ => ?_)
   refine jA (hc ((B,d,A4,c4,w.drew.heap.size,w5.heap.size),w5.heap.size) _ (⟨below_alloc ((bdrew (Below.refl w.heap.size w)).trans hq5) _,((bdrew (Below.refl w.heap.size w)).trans hq5).size,blk_new w5 _,hd,Iv.mv hD fun k _ h2=>(below_alloc (Below.refl w5.heap.size w5) _).block k h2,(bdrew (Below.refl w.heap.size w)).size,(below_alloc (Below.refl w5.heap.size w5) _).size,.inr (Nat.le_refl _),hc4,hC4⟩))
  ·refine vA ?_
   refine hK.out _ _ (⟨(I.out _ (below_alloc (bdrew (Below.refl w.heap.size w)) (.cells zC 25))).2.2.2.1,(I.out _ (below_alloc (bdrew (Below.refl w.heap.size w)) (.cells zC 25))).2.2.1⟩) (fun _ => ?_)
   refine nA 6 ?_
   refine eA 8 21 (bq 19 16895) (fun K hK => ?_)
   refine gA Tryz.func37 #[.agg (fc f.tree A c),.slice Ap x.p.length cp,.bool false] ?_
   refine ((show Calls Tryz.prog 37 #[.agg (fc f.tree A c),.slice Ap x.p.length cp,.bool false] _ _ from walk_calls f.tree A c Ap cp x.p false _ w ((below_alloc (bdrew (Below.refl w.heap.size w)) (.cells zC 25))) (HS.out w (Below.refl _ _)) hle (by omega) (I.out _ (below_alloc (bdrew (Below.refl w.heap.size w)) (.cells zC 25))).2.1 hcp (by omega) (by omega))).mono ?_
   rw [HU.out]
   rintro e w5 ⟨B,d,A4,c4,rfl,hd,hD,hc4,hC4,hq5⟩
   refine ⟨_,rfl,?_⟩
   refine hK.out _ _ (⟨(I.out _ ((below_alloc (bdrew (Below.refl w.heap.size w)) (.cells zC 25)).trans (hq5.mono (below_alloc (Below.refl w.drew.heap.size w.drew) (.cells zC 25)).size))).2.2.2.1,(I.out _ ((below_alloc (bdrew (Below.refl w.heap.size w)) (.cells zC 25)).trans (hq5.mono (below_alloc (Below.refl w.drew.heap.size w.drew) (.cells zC 25)).size))).2.2.1⟩) (fun _ => ?_)
   refine nA 21 ?_
   refine pA 9 12 (bq 19 17407) ?_
   refine pA 10 22 (bq 19 18431) ?_
   refine pA 11 23 (bq 19 20479) ?_
   refine pA 12 24 (bq 19 24575) ?_
   refine pA 13 25 (bq 19 32767) ?_
   refine jA (hc ((B,d,A4,c4,(w.drew.alloc (.cells zC 25)).heap.size,w5.heap.size),w.heap.size) _ (⟨((below_alloc (bdrew (Below.refl w.heap.size w)) (.cells zC 25)).trans (hq5.mono (below_alloc (Below.refl w.drew.heap.size w.drew) (.cells zC 25)).size)),Nat.le_refl _,(hq5.block _ (blk_lt (blk_new w.drew (.cells zC 25)))).trans (blk_new w.drew (.cells zC 25)),hd,hD,(below_alloc (bdrew (Below.refl w.heap.size w)) (.cells zC 25)).size,Nat.le_refl _,.inl (blk_lt (blk_new w.drew (.cells zC 25))),hc4,hC4⟩))
 ·rintro ⟨⟨B,d,A4,c4,lo1,hi1⟩,gd⟩ W hF
  refine uA ?_
  obtain ⟨hbW,hgd,hzz,hd,hD,hlo1,hhi1,hsp,hc4,hC4⟩:=hF
  have hHeld:=(show W.heap[g]? = some (.cells #[.string f.tree.name,.int .u8 f.tree.kind,.string f.tree.data,.slice A f.tree.files.length c,v,.map (some m)] 68 (0,0))∧W.heap[r]? = some (.cells #[.slice Ap x.p.length cp,.slice Ad x.dest.length cd,.string x.data,.int .u8 0,.int .i64 0] 97 (0,0)) from ⟨(I.out _ hbW).2.2.2.1,(I.out _ hbW).2.2.1⟩)
  refine pA 15 5 (bq 19 65535) ?_
  refine last_ (i:=16) (N:=none) (bq 19 131071) rfl rfl (by kernel_rfl) (by decide) (fun K hK => ?_)
  obtain ⟨zc0,zc1,zc2,zc3⟩:=c4A hzz
  obtain ⟨zu0,zu1,zu2,zu3⟩:=u4A hzz
  refine sA ?_
  refine hK.out _ _ ?_
  refine pA 17 7 (bq 19 262143) ?_
  refine pA 18 8 (bq 19 524287) ?_
  refine done_ (by kernel_rfl) ?_
  have hq6:=store4_below hbW (g:=gd) hgd (.string y.name) (.int .u8 y.kind) (.string y.data) (.slice A4 y.files.length c4)
  have hd6:=store4_box hzz (.string y.name) (.int .u8 y.kind) (.string y.data) (.slice A4 y.files.length c4)
  replace I:=Lib.hid (Hd.mv I.out hq6)
  replace I:=Lib.hid (Hd.and I.out (Hd.box (hd6)))
  have hIV6:=Lib.hid (hD.mv (w':=((((W.setCell ⟨gd,0,none⟩ (.string y.name)).setCell ⟨gd,1,none⟩ (.int .u8 y.kind)).setCell ⟨gd,2,none⟩ (.string y.data)).setCell ⟨gd,3,none⟩ (.slice A4 y.files.length c4))) fun k h1 h2=>store4_other W (g:=gd) (by omega) _ _ _ _)
  have HCY:=Lib.hid hC4
  have hsz6:((((W.setCell ⟨gd,0,none⟩ (.string y.name)).setCell ⟨gd,1,none⟩ (.int .u8 y.kind)).setCell ⟨gd,2,none⟩ (.string y.data)).setCell ⟨gd,3,none⟩ (.slice A4 y.files.length c4)).heap.size=W.heap.size:=by simp [World.setCell]
  have hhi6:hi1≤((((W.setCell ⟨gd,0,none⟩ (.string y.name)).setCell ⟨gd,1,none⟩ (.int .u8 y.kind)).setCell ⟨gd,2,none⟩ (.string y.data)).setCell ⟨gd,3,none⟩ (.slice A4 y.files.length c4)).heap.size:=by omega
  clear zc0 zc1 zc2 zc3 zu0 zu1 zu2 zu3 hHeld hK hd6 hD hC4 hsz6 hzz hsp hhi1
  generalize ((((W.setCell ⟨gd,0,none⟩ (.string y.name)).setCell ⟨gd,1,none⟩ (.int .u8 y.kind)).setCell ⟨gd,2,none⟩ (.string y.data)).setCell ⟨gd,3,none⟩ (.slice A4 y.files.length c4))=W6 at *
  have hbw6:=I.out.now.2.2.2.2.2
  have HFS6:=Lib.hid (HFS0.out.below hbw6)
  have hs6:=hbw6.size
  have HRQ6:=Lib.hid I.out.now.2.2.2.1
  have HR1:=HR.out
  unfold renameR at HR1
  rw [HU.out,HU2.out] at HR1
  simp only at HR1
  replace HR1:=Lib.hid HR1
  clear HR
  by_cases hk:k=0
  rotate_left
  ·skip
   have HR2:=HR1.out
   rw [if_neg hk] at HR2
   replace HR2:=Lib.hid HR2
   have k1:(k != 0)=true:=by rw [bne_iff_ne];exact hk
   have k1e:(k == 0)=false:=beq_eq_false_iff_ne.2 hk
   clear hk
   go_wp2_with fail
   go_ret
   rw [← HR2.out]
   exact ⟨rfl,HFS6.out.mono (fun k h=>.inl h) (fun k h=>h.elim (fun h=>HFS6.out.lts k h) fun h=>h.2),HRQ6.out,Only.of_belowV hbw6 _⟩
  ·skip
   subst hk
   have HR2:=HR1.out
   rw [if_pos rfl] at HR2
   replace HR2:=Lib.hid HR2
   cases is
   ·skip
    have HR3:=HR2.out
    rw [if_neg (by decide)] at HR3
    replace HR3:=Lib.hid HR3
    go_wp2_with fail
    go_ret
    rw [← HR3.out]
    exact ⟨rfl,HFS6.out.mono (fun k h=>.inl h) (fun k h=>h.elim (fun h=>HFS6.out.lts k h) fun h=>h.2),HRQ6.out,Only.of_belowV hbw6 _⟩
   ·skip
    have HR3:=HR2.out
    rw [if_pos rfl] at HR3
    replace HR3:=Lib.hid HR3
    by_cases hy:y.kind=1
    ·skip
     have HR4:=HR3.out
     rw [if_pos hy] at HR4
     replace HR4:=Lib.hid HR4
     have k2y:(y.kind == 1)=true:=beq_iff_eq.2 hy
     clear hy
     obtain ⟨ly0,ly1,ly2,ly3⟩:=c4A I.out.now.1
     go_wp2_with fail
     go_ret
     rw [← HR4.out]
     exact ⟨rfl,HFS6.out.mono (fun k h=>.inl h) (fun k h=>h.elim (fun h=>HFS6.out.lts k h) fun h=>h.2),HRQ6.out,Only.of_belowV hbw6 _⟩
    ·skip
     have HR4:=HR3.out
     rw [if_neg hy] at HR4
     replace HR4:=Lib.hid HR4
     have k2y:(y.kind == 1)=false:=beq_eq_false_iff_ne.2 hy
     clear hy
     obtain ⟨ly0,ly1,ly2,ly3⟩:=c4A I.out.now.1
     go_wp2_with fail
     clear ly0 ly1 ly2 ly3
     refine start_ (n:=19) (S:=fun w'=>w'.heap[g]? = some (.cells #[.string f.tree.name,.int .u8 f.tree.kind,.string f.tree.data,.slice A f.tree.files.length c,v,.map (some m)] 68 (0,0))∧w'.heap[r]? = some (.cells #[.slice Ap x.p.length cp,.slice Ad x.dest.length cd,.string x.data,.int .u8 0,.int .i64 0] 97 (0,0))) (ds:=[16]) (bq 19 0) (by kernel_rfl) rfl rfl ⟨(I.out _ (bdrew (Below.refl W6.heap.size W6))).2.2.2.2.1,(I.out _ (bdrew (Below.refl W6.heap.size W6))).2.2.2.1⟩ (fun hHeld => ?_)
     refine pA 0 38 (bq 19 1) ?_
     refine pA 1 39 (bq 19 3) ?_
     refine pA 2 40 (bq 19 7) ?_
     refine pA 4 42 (bq 19 23) ?_
     refine pA 5 43 (bq 19 55) ?_
     refine pA 6 44 (bq 19 119) ?_
     refine tA 3 41 (bq 19 127) hHeld ?_ (hy:=by
      rintro w' ⟨s0,s1⟩
      have q0:=cell_of (j:=0) s0 rfl
      have q1:=cell_of (j:=1) s0 rfl
      have q2:=cell_of (j:=2) s0 rfl
      have q3:=cell_of (j:=3) s0 rfl
      have q4:=cell_of (j:=4) s0 rfl
      have q5:=cell_of (j:=5) s0 rfl
      go_simp
      with_reducible rfl)
     refine tA 7 45 (bq 19 255) hHeld ?_ (hy:=by
      rintro w' ⟨s0,s1⟩
      have q0:=cell_of (j:=0) s1 rfl
      have q1:=cell_of (j:=1) s1 rfl
      have q2:=cell_of (j:=2) s1 rfl
      have q3:=cell_of (j:=3) s1 rfl
      have q4:=cell_of (j:=4) s1 rfl
      go_simp
      with_reducible rfl)
     refine join_ (σ:=(Option Addr×Nat×Option Addr×Nat×Nat×Nat)×Nat) 4 (bq 19 32767) (fun s=>match s with | ((B2,d2,A5,c5,lo2,hi2),gd2)=>[(46,.tuple #[.slice B2 q2.length d2,.agg (fc z A5 c5),.bool is2,.int .i64 k2]),(37,.tuple #[.slice B2 q2.length d2,.agg (fc z A5 c5),.bool is2,.int .i64 k2]),(47,.slice B2 q2.length d2),(48,.agg (fc z A5 c5)),(49,.bool is2),(50,.int .i64 k2),(10,.pointer (some ⟨gd2,0,none⟩))]) (fun s W=>match s with | ((B2,d2,A5,c5,lo2,hi2),gd2)=>Below W6.heap.size W6 W∧W6.heap.size≤gd2∧W.heap[gd2]? = some (.cells zC 25 (0,0))∧q2.length≤d2∧Iv lo2 hi2 W (fun W=>Kd.C Kd.string W B2 q2.length q2)∧W6.heap.size≤lo2∧hi2≤W.heap.size∧(gd2<lo2∨hi2≤gd2)∧z.files.length≤c5∧FileK.C w A5 z.files.length z.files) ?_ ?_
     rotate_left
     ·intro hc
      refine two_ (i:=8) (j:=14) (Ni:=some 46) (Nj:=some 10) (bq 19 511) (bq 19 16639) rfl rfl rfl rfl (by kernel_rfl) (by decide) (by decide) (fun K hK => ?_) (fun K hK => ?_)
      ·refine gA Tryz.func37 #[.agg (fc f.tree A c),.slice Ad x.dest.length cd,.bool false] ?_
       refine ((show Calls Tryz.prog 37 #[.agg (fc f.tree A c),.slice Ad x.dest.length cd,.bool false] _ _ from walk_calls f.tree A c Ad cd x.dest false _ w (hbw6.trans (((bdrew (Below.refl W6.heap.size W6))).mono hs6)) (HS.out w (Below.refl _ _)) hle (by omega) (I.out _ (bdrew (Below.refl W6.heap.size W6))).2.1 hcd (by omega) (by omega))).mono ?_
       rw [HU2.out]
       rintro e w5 ⟨B2,d2,A5,c5,rfl,hd,hD,hc4,hC4,hq5⟩
       refine ⟨_,rfl,?_⟩
       refine hK.out _ _ (⟨(I.out _ ((bdrew (Below.refl W6.heap.size W6)).trans hq5)).2.2.2.2.1,(I.out _ ((bdrew (Below.refl W6.heap.size W6)).trans hq5)).2.2.2.1⟩) (fun _ => ?_)
       refine nA 46 ?_
       refine pA 9 37 (bq 19 1023) ?_
       refine pA 10 47 (bq 19 2047) ?_
       refine pA 11 48 (bq 19 4095) ?_
       refine pA 12 49 (bq 19 8191) ?_
       refine pA 13 50 (bq 19 16383) ?_
       refine eA 14 10 (bq 19 32767) (fun K hK => ?_)
       refine vA ?_
       refine hK.out _ _ (⟨(I.out _ (below_alloc ((bdrew (Below.refl W6.heap.size W6)).trans hq5) _)).2.2.2.2.1,(I.out _ (below_alloc ((bdrew (Below.refl W6.heap.size W6)).trans hq5) _)).2.2.2.1⟩) (fun _ => ?_)
       refine jA (hc ((B2,d2,A5,c5,W6.drew.heap.size,w5.heap.size),w5.heap.size) _ (⟨below_alloc ((bdrew (Below.refl W6.heap.size W6)).trans hq5) _,((bdrew (Below.refl W6.heap.size W6)).trans hq5).size,blk_new w5 _,hd,Iv.mv hD fun k _ h2=>(below_alloc (Below.refl w5.heap.size w5) _).block k h2,(bdrew (Below.refl W6.heap.size W6)).size,(below_alloc (Below.refl w5.heap.size w5) _).size,.inr (Nat.le_refl _),hc4,hC4⟩))
      ·refine vA ?_
       refine hK.out _ _ (⟨(I.out _ (below_alloc (bdrew (Below.refl W6.heap.size W6)) (.cells zC 25))).2.2.2.2.1,(I.out _ (below_alloc (bdrew (Below.refl W6.heap.size W6)) (.cells zC 25))).2.2.2.1⟩) (fun _ => ?_)
       refine nA 10 ?_
       refine eA 8 46 (bq 19 16895) (fun K hK => ?_)
       refine gA Tryz.func37 #[.agg (fc f.tree A c),.slice Ad x.dest.length cd,.bool false] ?_
       refine ((show Calls Tryz.prog 37 #[.agg (fc f.tree A c),.slice Ad x.dest.length cd,.bool false] _ _ from walk_calls f.tree A c Ad cd x.dest false _ w (hbw6.trans (((below_alloc (bdrew (Below.refl W6.heap.size W6)) (.cells zC 25))).mono hs6)) (HS.out w (Below.refl _ _)) hle (by omega) (I.out _ (below_alloc (bdrew (Below.refl W6.heap.size W6)) (.cells zC 25))).2.1 hcd (by omega) (by omega))).mono ?_
       rw [HU2.out]
       rintro e w5 ⟨B2,d2,A5,c5,rfl,hd,hD,hc4,hC4,hq5⟩
       refine ⟨_,rfl,?_⟩
       refine hK.out _ _ (⟨(I.out _ ((below_alloc (bdrew (Below.refl W6.heap.size W6)) (.cells zC 25)).trans (hq5.mono (below_alloc (Below.refl W6.drew.heap.size W6.drew) (.cells zC 25)).size))).2.2.2.2.1,(I.out _ ((below_alloc (bdrew (Below.refl W6.heap.size W6)) (.cells zC 25)).trans (hq5.mono (below_alloc (Below.refl W6.drew.heap.size W6.drew) (.cells zC 25)).size))).2.2.2.1⟩) (fun _ => ?_)
       refine nA 46 ?_
       refine pA 9 37 (bq 19 17407) ?_
       refine pA 10 47 (bq 19 18431) ?_
       refine pA 11 48 (bq 19 20479) ?_
       refine pA 12 49 (bq 19 24575) ?_
       refine pA 13 50 (bq 19 32767) ?_
       refine jA (hc ((B2,d2,A5,c5,(W6.drew.alloc (.cells zC 25)).heap.size,w5.heap.size),W6.heap.size) _ (⟨((below_alloc (bdrew (Below.refl W6.heap.size W6)) (.cells zC 25)).trans (hq5.mono (below_alloc (Below.refl W6.drew.heap.size W6.drew) (.cells zC 25)).size)),Nat.le_refl _,(hq5.block _ (blk_lt (blk_new W6.drew (.cells zC 25)))).trans (blk_new W6.drew (.cells zC 25)),hd,hD,(below_alloc (bdrew (Below.refl W6.heap.size W6)) (.cells zC 25)).size,Nat.le_refl _,.inl (blk_lt (blk_new W6.drew (.cells zC 25))),hc4,hC4⟩))
     ·rintro ⟨⟨B2,d2,A5,c5,lo2,hi2⟩,gd2⟩ W hF
      refine uA ?_
      obtain ⟨hbW2,hgd2,hzz2,hd2,hD2,hlo2,hhi2,hsp2,hc5,hC5⟩:=hF
      have hHeld:=(show W.heap[g]? = some (.cells #[.string f.tree.name,.int .u8 f.tree.kind,.string f.tree.data,.slice A f.tree.files.length c,v,.map (some m)] 68 (0,0))∧W.heap[r]? = some (.cells #[.slice Ap x.p.length cp,.slice Ad x.dest.length cd,.string x.data,.int .u8 0,.int .i64 0] 97 (0,0)) from ⟨(I.out _ hbW2).2.2.2.2.1,(I.out _ hbW2).2.2.2.1⟩)
      refine pA 15 9 (bq 19 65535) ?_
      refine last_ (i:=16) (N:=none) (bq 19 131071) rfl rfl (by kernel_rfl) (by decide) (fun K hK => ?_)
      obtain ⟨zc0,zc1,zc2,zc3⟩:=c4A hzz2
      obtain ⟨zu0,zu1,zu2,zu3⟩:=u4A hzz2
      refine sA ?_
      refine hK.out _ _ ?_
      refine pA 17 7 (bq 19 262143) ?_
      refine pA 18 8 (bq 19 524287) ?_
      refine done_ (by kernel_rfl) ?_
      have hq9:=store4_below hbW2 (g:=gd2) hgd2 (.string z.name) (.int .u8 z.kind) (.string z.data) (.slice A5 z.files.length c5)
      have hd6:=store4_box hzz2 (.string z.name) (.int .u8 z.kind) (.string z.data) (.slice A5 z.files.length c5)
      replace I:=Lib.hid (Hd.mv I.out hq9)
      replace I:=Lib.hid (Hd.and I.out (Hd.box (hd6)))
      have hIV9:=Lib.hid (hD2.mv (w':=((((W.setCell ⟨gd2,0,none⟩ (.string z.name)).setCell ⟨gd2,1,none⟩ (.int .u8 z.kind)).setCell ⟨gd2,2,none⟩ (.string z.data)).setCell ⟨gd2,3,none⟩ (.slice A5 z.files.length c5))) fun k h1 h2=>store4_other W (g:=gd2) (by omega) _ _ _ _)
      have HCZ:=Lib.hid hC5
      have hsz6:((((W.setCell ⟨gd2,0,none⟩ (.string z.name)).setCell ⟨gd2,1,none⟩ (.int .u8 z.kind)).setCell ⟨gd2,2,none⟩ (.string z.data)).setCell ⟨gd2,3,none⟩ (.slice A5 z.files.length c5)).heap.size=W.heap.size:=by simp [World.setCell]
      have hhi9:hi2≤((((W.setCell ⟨gd2,0,none⟩ (.string z.name)).setCell ⟨gd2,1,none⟩ (.int .u8 z.kind)).setCell ⟨gd2,2,none⟩ (.string z.data)).setCell ⟨gd2,3,none⟩ (.slice A5 z.files.length c5)).heap.size:=by omega
      clear zc0 zc1 zc2 zc3 zu0 zu1 zu2 zu3 hHeld hK hd6 hD2 hC5 hsz6 hzz2 hsp2 hhi2
      generalize ((((W.setCell ⟨gd2,0,none⟩ (.string z.name)).setCell ⟨gd2,1,none⟩ (.int .u8 z.kind)).setCell ⟨gd2,2,none⟩ (.string z.data)).setCell ⟨gd2,3,none⟩ (.slice A5 z.files.length c5))=W9 at *
      have hbw9:=I.out.now.2.2.2.2.2.2
      have HFS9:=Lib.hid (HFS0.out.below hbw9)
      have hs9:=hbw9.size
      have HRQ9:=Lib.hid I.out.now.2.2.2.2.1
      have hqs:=walk_sum f.tree x.p false
      have hqs2:=walk_sum f.tree x.dest false
      have hyb:=walk_bulk f.tree x.p false
      rw [HU.out] at hqs hyb
      rw [HU2.out] at hqs2
      simp only at hqs hqs2 hyb
      have hql:=P.sumP_len q
      have hql2:=P.sumP_len q2
      have HQN:Hid (∀ n∈q2,n.size≤1000000000):=Lib.hid fun n hn=>by have:=sumP_in hn;omega
      obtain ⟨bb,hbb⟩:∃ b,decide (q=q2)=b:=⟨_,rfl⟩
      have HBB:=Lib.hid hbb
      clear hbb
      replace I:=Lib.hid (Hd.and I.out (Hd.reads (hIV6.out.mv fun k _ h2=>hq9.block k (Nat.lt_of_lt_of_le h2 hhi6)).now))
      replace I:=Lib.hid (Hd.and I.out (Hd.reads hIV9.out.now))
      replace I:=Lib.hid (Hd.and I.out (Hd.reads (Kd.C_below HCY.out hbw9)))
      by_cases hk2:k2=0
      rotate_left
      ·skip
       have HR5:=HR4.out
       rw [if_neg hk2] at HR5
       replace HR5:=Lib.hid HR5
       have k3:(k2 != 0)=true:=by rw [bne_iff_ne];exact hk2
       clear hk2
       go_wp2_with fail
       go_ret
       rw [← HR5.out]
       exact ⟨rfl,HFS9.out.mono (fun k h=>.inl h) (fun k h=>h.elim (fun h=>HFS9.out.lts k h) fun h=>h.2),HRQ9.out,Only.of_belowV hbw9 _⟩
      ·skip
       subst hk2
       have HR4:=HR4.out
       rw [if_pos rfl] at HR4
       replace HR4:=Lib.hid HR4
       cases is2
       ·skip
        have HR5:=HR4.out
        rw [if_neg (fun h=>absurd h.1 (by decide))] at HR5
        replace HR5:=Lib.hid HR5
        go_wp2_with fail
        refine (show Calls Tryz.prog 113 #[.slice B q.length d,.slice B2 q2.length d2] W9 _ from eqP_below B d q B2 d2 q2 W9 I.out.now.2.2.1 hd I.out.now.2.1 hd2 (by omega)).mono ?_
        rw [HBB.out]
        rintro e w10 ⟨rfl,hq10⟩
        replace I:=Lib.hid (Hd.mv I.out hq10)
        have hbw10:=I.out.now.2.2.2.2.2.2.2.2.2
        have HFS10:=Lib.hid (HFS0.out.below hbw10)
        have hs10:=hbw10.size
        have HRQ10:=Lib.hid I.out.now.2.2.2.2.2.2.2.1
        cases bb
        rotate_left
        ·skip
         have HR6:=HR5.out
         rw [if_pos (of_decide_eq_true HBB.out)] at HR6
         replace HR6:=Lib.hid HR6
         go_wp2_with fail
         go_ret
         rw [← HR6.out]
         exact ⟨rfl,HFS10.out.mono (fun k h=>.inl h) (fun k h=>h.elim (fun h=>HFS10.out.lts k h) fun h=>h.2),HRQ10.out,Only.of_belowV hbw10 _⟩
        ·skip
         have HR6:=HR5.out
         rw [if_neg (of_decide_eq_false HBB.out)] at HR6
         replace HR6:=Lib.hid HR6
         obtain ⟨⟨u,k3⟩,hu3⟩:∃ r,dropA f.tree q=r:=⟨_,rfl⟩
         rw [hu3] at HR6
         have HU3:=Lib.hid hu3
         clear hu3
         have hub:=dropA_bulk f.tree q
         rw [HU3.out] at hub
         simp only at hub HR6
         obtain ⟨lg0,lg1,lg2,lg3,lg4,lg5⟩:=c6A I.out.now.2.2.2.2.2.2.2.2.1
         go_wp2_with fail
         clear lg0 lg1 lg2 lg3 lg4 lg5
         refine (show Calls Tryz.prog 114 #[.agg (fc f.tree A c),.slice B q.length d] w10 _ from dropS f.tree A c B d q w10 (HS.out _ hbw10) hle (by omega) I.out.now.2.2.1 hd (by omega)).mono ?_
         rw [HU3.out]
         rintro e w11 ⟨⟨A6,c6,rfl,hc6,hC6⟩,hq11⟩
         replace I:=Lib.hid (Hd.mv I.out hq11)
         have hbw11:=I.out.now.2.2.2.2.2.2.2.2.2
         have HFS11:=Lib.hid (HFS0.out.below hbw11)
         have hs11:=hbw11.size
         have HRQ11:=Lib.hid I.out.now.2.2.2.2.2.2.2.1
         have HIV11:=Lib.hid (show Iv w10.heap.size w11.heap.size w11 (fun W=>FileK.C W A6 u.files.length u.files) from hC6)
         clear hC6
         by_cases hk3:k3=0
         rotate_left
         ·skip
          have HR7:=HR6.out
          rw [if_neg hk3] at HR7
          replace HR7:=Lib.hid HR7
          have k3a:(k3 != 0)=true:=by rw [bne_iff_ne];exact hk3
          clear hk3
          go_wp2_with fail
          have hq12:=below_alloc (Below.refl w11.heap.size w11) (.cells (fc u A6 c6) 25)
          replace I:=Lib.hid (Hd.mv I.out hq12)
          replace I:=Lib.hid (Hd.and I.out (Hd.box (blk_new w11 (.cells (fc u A6 c6) 25))))
          have hbw12:=I.out.now.2.2.2.2.2.2.2.2.2.2
          have HFS12:=Lib.hid (HFS0.out.below hbw12)
          have hs12:=hbw12.size
          have HRQ12:=Lib.hid I.out.now.2.2.2.2.2.2.2.2.1
          go_ret
          rw [← HR7.out]
          exact ⟨rfl,HFS12.out.mono (fun k h=>.inl h) (fun k h=>h.elim (fun h=>HFS12.out.lts k h) fun h=>h.2),HRQ12.out,Only.of_belowV hbw12 _⟩
         ·skip
          subst hk3
          have HR7:=HR6.out
          rw [if_pos rfl] at HR7
          replace HR7:=Lib.hid HR7
          have hq12:=below_alloc (Below.refl w11.heap.size w11) (.cells (fc u A6 c6) 25)
          replace I:=Lib.hid (Hd.mv I.out hq12)
          replace I:=Lib.hid (Hd.and I.out (Hd.box (blk_new w11 (.cells (fc u A6 c6) 25))))
          have hbw12:=I.out.now.2.2.2.2.2.2.2.2.2.2
          have HFS12:=Lib.hid (HFS0.out.below hbw12)
          have hs12:=hbw12.size
          have HRQ12:=Lib.hid I.out.now.2.2.2.2.2.2.2.2.1
          have HBU12:=Lib.hid I.out.now.1
          obtain ⟨lu0,lu1,lu2,lu3⟩:=c4A I.out.now.1
          obtain ⟨ly0,ly1,ly2,ly3⟩:=c4A I.out.now.2.2.2.2.2.1
          go_wp2_with fail
          clear lu0 lu1 lu2 lu3 ly0 ly1 ly2 ly3
          generalize (w11.alloc (.cells (fc u A6 c6) 25))=W12 at *
          obtain ⟨⟨u2,k4⟩,hu4⟩:∃ r,putA u q2 y=r:=⟨_,rfl⟩
          rw [hu4] at HR7
          simp only at HR7
          have HU4:=Lib.hid hu4
          clear hu4
          have hs12b:=hbw12.size
          refine (show Calls Tryz.prog 115 #[.agg (fc u A6 c6),.slice B2 q2.length d2,.agg (fc y A4 c4)] W12 _ from putS u y A6 A4 c6 c4 B2 d2 q2 W12 (HIV11.out.mv fun k _ h2=>hq12.block k h2).now hc6 (by omega) I.out.now.2.2.1 hd2 (by omega) I.out.now.2.1 hc4 (by omega) HQN.out).mono ?_
          rw [HU4.out]
          rintro e w13 ⟨⟨A7,c7,rfl,hc7,hC7⟩,hq13⟩
          replace I:=Lib.hid (Hd.mv I.out hq13)
          have hbw13:=I.out.now.2.2.2.2.2.2.2.2.2.2
          have HFS13:=Lib.hid (HFS0.out.below hbw13)
          have hs13:=hbw13.size
          have HRQ13:=Lib.hid I.out.now.2.2.2.2.2.2.2.2.1
          have HIV13:=Lib.hid (show Iv W12.heap.size w13.heap.size w13 (fun W=>FileK.C W A7 u2.files.length u2.files) from hC7)
          clear hC7
          have hgu:r≠w11.heap.size:=by omega
          have hgg:g≠w11.heap.size:=by omega
          have hgl12:w11.heap.size<W12.heap.size:=blk_lt (show W12.heap[w11.heap.size]? = some (.cells (fc u A6 c6) 25 (0,0)) from by have h:=HBU12.out;exact h)
          have HB14:=Lib.hid (store4_below hbw13 (g:=w11.heap.size) hs11 (.string u2.name) (.int .u8 u2.kind) (.string u2.data) (.slice A7 u2.files.length c7))
          have HU14:=Lib.hid (store4_box I.out.now.1 (.string u2.name) (.int .u8 u2.kind) (.string u2.data) (.slice A7 u2.files.length c7))
          have HG14:=Lib.hid ((store4_other w13 (g:=w11.heap.size) hgg (.string u2.name) (.int .u8 u2.kind) (.string u2.data) (.slice A7 u2.files.length c7)).trans I.out.now.2.2.2.2.2.2.2.2.2.1)
          have HR14:=Lib.hid ((store4_other w13 (g:=w11.heap.size) hgu (.string u2.name) (.int .u8 u2.kind) (.string u2.data) (.slice A7 u2.files.length c7)).trans HRQ13.out)
          have HI14:=Lib.hid (HIV13.out.mv (w':=((((w13.setCell ⟨w11.heap.size,0,none⟩ (.string u2.name)).setCell ⟨w11.heap.size,1,none⟩ (.int .u8 u2.kind)).setCell ⟨w11.heap.size,2,none⟩ (.string u2.data)).setCell ⟨w11.heap.size,3,none⟩ (.slice A7 u2.files.length c7))) fun k h1 _=>store4_other w13 (g:=w11.heap.size) (by omega) (.string u2.name) (.int .u8 u2.kind) (.string u2.data) (.slice A7 u2.files.length c7))
          have HZ14:Hid (((((w13.setCell ⟨w11.heap.size,0,none⟩ (.string u2.name)).setCell ⟨w11.heap.size,1,none⟩ (.int .u8 u2.kind)).setCell ⟨w11.heap.size,2,none⟩ (.string u2.data)).setCell ⟨w11.heap.size,3,none⟩ (.slice A7 u2.files.length c7)).heap.size=w13.heap.size):=Lib.hid (by simp [World.setCell])
          obtain ⟨zc0,zc1,zc2,zc3⟩:=c4A I.out.now.1
          obtain ⟨zu0,zu1,zu2,zu3⟩:=u4A I.out.now.1
          obtain ⟨W14,hW14⟩:∃ W,((((w13.setCell ⟨w11.heap.size,0,none⟩ (.string u2.name)).setCell ⟨w11.heap.size,1,none⟩ (.int .u8 u2.kind)).setCell ⟨w11.heap.size,2,none⟩ (.string u2.data)).setCell ⟨w11.heap.size,3,none⟩ (.slice A7 u2.files.length c7))=W:=⟨_,rfl⟩
          rw [hW14] at HB14 HU14 HG14 HR14 HI14 HZ14
          by_cases hk4:k4=0
          rotate_left
          ·skip
           have HR8:=HR7.out
           rw [if_neg hk4] at HR8
           replace HR8:=Lib.hid HR8
           have k4a:(k4 == 0)=false:=beq_eq_false_iff_ne.2 hk4
           clear hk4
           go_wp2_with fail
           go_ret
           rw [← HR8.out]
           have HF14:=HFS0.out.below HB14.out
           exact ⟨rfl,HF14.mono (fun k h=>.inl h) (fun k h=>h.elim (fun h=>HF14.lts k h) fun h=>h.2),HR14.out,Only.of_belowV HB14.out _⟩
          ·skip
           subst hk4
           have HR8:=HR7.out
           rw [if_pos rfl] at HR8
           replace HR8:=Lib.hid HR8
           obtain ⟨lu0,lu1,lu2,lu3⟩:=c4A HU14.out
           obtain ⟨zg0,zg1,zg2,zg3⟩:=c4A HG14.out
           obtain ⟨ug0,ug1,ug2,ug3⟩:=u4A HG14.out
           go_wp2_with fail
           go_ret
           rw [← HR8.out]
           have hsz:((((W14.setCell ⟨g,0,none⟩ (.string u2.name)).setCell ⟨g,1,none⟩ (.int .u8 u2.kind)).setCell ⟨g,2,none⟩ (.string u2.data)).setCell ⟨g,3,none⟩ (.slice A7 u2.files.length c7)).heap.size=W14.heap.size:=by simp [World.setCell]
           have hz14:=HZ14.out
           have hb14:=HB14.out
           have hs13':=hq13.size
           obtain ⟨hle,hiv,hsep,htr,htb,hfl,hOm,hOlt⟩:=HFSK.out
           have htr6:=Kd.R_below htr hb14
           have htrn:=Kd.R_types htr6 HG14.out (by decide)
           have hflm:=hfl.lt
           have hmg:=(hfl.mv (hb14.block m hflm)).ne HG14.out
           have htbl:∀ k,tb=some k→k<w.heap.size:=fun k e=>hOlt k (((Kd.R_bound htr).1 k (htb.trans e)).1)
           refine ⟨rfl,⟨A7,c7,v,m,W12.heap.size,w13.heap.size,store4_box6 HG14.out _ _ _ _,hc7,HI14.out.mv fun k h1 h2=>store4_other W14 (g:=g) (by omega) _ _ _ _,fun k h1 h2=>⟨.inr ⟨by omega,by omega⟩,by omega,fun e=>by have:=htbl k e;omega⟩,Kd.R_mono (Kd.R_step htrn fun k hk _=>store4_other W14 (g:=g) hk.2 _ _ _ _) (fun k hk=>.inl hk.1),htb,hfl.mv ((store4_other W14 (g:=g) hmg _ _ _ _).trans (hb14.block m hflm)),.inl hOm,fun k h=>h.elim (fun h=>by have:=hOlt k h;omega) fun h=>h.2⟩,(store4_other W14 (g:=g) hrg _ _ _ _).trans HR14.out,?_⟩
           exact (Only.of_belowV hb14 (fun k=>k=g∨k=r)).trans (only4 W14 g _ _ _ _) (fun _ _ h=>h) (fun _ _ h=>.inl h)
       ·skip
        by_cases hz:z.kind=1
        ·skip
         have HR5:=HR4.out
         rw [if_pos ⟨rfl,hz⟩] at HR5
         replace HR5:=Lib.hid HR5
         have k2z:(z.kind == 1)=true:=beq_iff_eq.2 hz
         clear hz
         obtain ⟨lz0,lz1,lz2,lz3⟩:=c4A I.out.now.2.2.2.1
         go_wp2_with fail
         go_ret
         rw [← HR5.out]
         exact ⟨rfl,HFS9.out.mono (fun k h=>.inl h) (fun k h=>h.elim (fun h=>HFS9.out.lts k h) fun h=>h.2),HRQ9.out,Only.of_belowV hbw9 _⟩
        ·skip
         have HR5:=HR4.out
         rw [if_neg (fun h=>hz h.2)] at HR5
         replace HR5:=Lib.hid HR5
         have k2z:(z.kind == 1)=false:=beq_eq_false_iff_ne.2 hz
         clear hz
         obtain ⟨lz0,lz1,lz2,lz3⟩:=c4A I.out.now.2.2.2.1
         go_wp2_with fail
         refine (show Calls Tryz.prog 113 #[.slice B q.length d,.slice B2 q2.length d2] W9 _ from eqP_below B d q B2 d2 q2 W9 I.out.now.2.2.1 hd I.out.now.2.1 hd2 (by omega)).mono ?_
         rw [HBB.out]
         rintro e w10 ⟨rfl,hq10⟩
         replace I:=Lib.hid (Hd.mv I.out hq10)
         have hbw10:=I.out.now.2.2.2.2.2.2.2.2.2
         have HFS10:=Lib.hid (HFS0.out.below hbw10)
         have hs10:=hbw10.size
         have HRQ10:=Lib.hid I.out.now.2.2.2.2.2.2.2.1
         cases bb
         rotate_left
         ·skip
          have HR6:=HR5.out
          rw [if_pos (of_decide_eq_true HBB.out)] at HR6
          replace HR6:=Lib.hid HR6
          go_wp2_with fail
          go_ret
          rw [← HR6.out]
          exact ⟨rfl,HFS10.out.mono (fun k h=>.inl h) (fun k h=>h.elim (fun h=>HFS10.out.lts k h) fun h=>h.2),HRQ10.out,Only.of_belowV hbw10 _⟩
         ·skip
          have HR6:=HR5.out
          rw [if_neg (of_decide_eq_false HBB.out)] at HR6
          replace HR6:=Lib.hid HR6
          obtain ⟨⟨u,k3⟩,hu3⟩:∃ r,dropA f.tree q=r:=⟨_,rfl⟩
          rw [hu3] at HR6
          have HU3:=Lib.hid hu3
          clear hu3
          have hub:=dropA_bulk f.tree q
          rw [HU3.out] at hub
          simp only at hub HR6
          obtain ⟨lg0,lg1,lg2,lg3,lg4,lg5⟩:=c6A I.out.now.2.2.2.2.2.2.2.2.1
          go_wp2_with fail
          clear lg0 lg1 lg2 lg3 lg4 lg5
          refine (show Calls Tryz.prog 114 #[.agg (fc f.tree A c),.slice B q.length d] w10 _ from dropS f.tree A c B d q w10 (HS.out _ hbw10) hle (by omega) I.out.now.2.2.1 hd (by omega)).mono ?_
          rw [HU3.out]
          rintro e w11 ⟨⟨A6,c6,rfl,hc6,hC6⟩,hq11⟩
          replace I:=Lib.hid (Hd.mv I.out hq11)
          have hbw11:=I.out.now.2.2.2.2.2.2.2.2.2
          have HFS11:=Lib.hid (HFS0.out.below hbw11)
          have hs11:=hbw11.size
          have HRQ11:=Lib.hid I.out.now.2.2.2.2.2.2.2.1
          have HIV11:=Lib.hid (show Iv w10.heap.size w11.heap.size w11 (fun W=>FileK.C W A6 u.files.length u.files) from hC6)
          clear hC6
          by_cases hk3:k3=0
          rotate_left
          ·skip
           have HR7:=HR6.out
           rw [if_neg hk3] at HR7
           replace HR7:=Lib.hid HR7
           have k3a:(k3 != 0)=true:=by rw [bne_iff_ne];exact hk3
           clear hk3
           go_wp2_with fail
           have hq12:=below_alloc (Below.refl w11.heap.size w11) (.cells (fc u A6 c6) 25)
           replace I:=Lib.hid (Hd.mv I.out hq12)
           replace I:=Lib.hid (Hd.and I.out (Hd.box (blk_new w11 (.cells (fc u A6 c6) 25))))
           have hbw12:=I.out.now.2.2.2.2.2.2.2.2.2.2
           have HFS12:=Lib.hid (HFS0.out.below hbw12)
           have hs12:=hbw12.size
           have HRQ12:=Lib.hid I.out.now.2.2.2.2.2.2.2.2.1
           go_ret
           rw [← HR7.out]
           exact ⟨rfl,HFS12.out.mono (fun k h=>.inl h) (fun k h=>h.elim (fun h=>HFS12.out.lts k h) fun h=>h.2),HRQ12.out,Only.of_belowV hbw12 _⟩
          ·skip
           subst hk3
           have HR7:=HR6.out
           rw [if_pos rfl] at HR7
           replace HR7:=Lib.hid HR7
           have hq12:=below_alloc (Below.refl w11.heap.size w11) (.cells (fc u A6 c6) 25)
           replace I:=Lib.hid (Hd.mv I.out hq12)
           replace I:=Lib.hid (Hd.and I.out (Hd.box (blk_new w11 (.cells (fc u A6 c6) 25))))
           have hbw12:=I.out.now.2.2.2.2.2.2.2.2.2.2
           have HFS12:=Lib.hid (HFS0.out.below hbw12)
           have hs12:=hbw12.size
           have HRQ12:=Lib.hid I.out.now.2.2.2.2.2.2.2.2.1
           have HBU12:=Lib.hid I.out.now.1
           obtain ⟨lu0,lu1,lu2,lu3⟩:=c4A I.out.now.1
           obtain ⟨ly0,ly1,ly2,ly3⟩:=c4A I.out.now.2.2.2.2.2.1
           go_wp2_with fail
           clear lu0 lu1 lu2 lu3 ly0 ly1 ly2 ly3
           generalize (w11.alloc (.cells (fc u A6 c6) 25))=W12 at *
           obtain ⟨⟨u2,k4⟩,hu4⟩:∃ r,putA u q2 y=r:=⟨_,rfl⟩
           rw [hu4] at HR7
           simp only at HR7
           have HU4:=Lib.hid hu4
           clear hu4
           have hs12b:=hbw12.size
           refine (show Calls Tryz.prog 115 #[.agg (fc u A6 c6),.slice B2 q2.length d2,.agg (fc y A4 c4)] W12 _ from putS u y A6 A4 c6 c4 B2 d2 q2 W12 (HIV11.out.mv fun k _ h2=>hq12.block k h2).now hc6 (by omega) I.out.now.2.2.1 hd2 (by omega) I.out.now.2.1 hc4 (by omega) HQN.out).mono ?_
           rw [HU4.out]
           rintro e w13 ⟨⟨A7,c7,rfl,hc7,hC7⟩,hq13⟩
           replace I:=Lib.hid (Hd.mv I.out hq13)
           have hbw13:=I.out.now.2.2.2.2.2.2.2.2.2.2
           have HFS13:=Lib.hid (HFS0.out.below hbw13)
           have hs13:=hbw13.size
           have HRQ13:=Lib.hid I.out.now.2.2.2.2.2.2.2.2.1
           have HIV13:=Lib.hid (show Iv W12.heap.size w13.heap.size w13 (fun W=>FileK.C W A7 u2.files.length u2.files) from hC7)
           clear hC7
           have hgu:r≠w11.heap.size:=by omega
           have hgg:g≠w11.heap.size:=by omega
           have hgl12:w11.heap.size<W12.heap.size:=blk_lt (show W12.heap[w11.heap.size]? = some (.cells (fc u A6 c6) 25 (0,0)) from by have h:=HBU12.out;exact h)
           have HB14:=Lib.hid (store4_below hbw13 (g:=w11.heap.size) hs11 (.string u2.name) (.int .u8 u2.kind) (.string u2.data) (.slice A7 u2.files.length c7))
           have HU14:=Lib.hid (store4_box I.out.now.1 (.string u2.name) (.int .u8 u2.kind) (.string u2.data) (.slice A7 u2.files.length c7))
           have HG14:=Lib.hid ((store4_other w13 (g:=w11.heap.size) hgg (.string u2.name) (.int .u8 u2.kind) (.string u2.data) (.slice A7 u2.files.length c7)).trans I.out.now.2.2.2.2.2.2.2.2.2.1)
           have HR14:=Lib.hid ((store4_other w13 (g:=w11.heap.size) hgu (.string u2.name) (.int .u8 u2.kind) (.string u2.data) (.slice A7 u2.files.length c7)).trans HRQ13.out)
           have HI14:=Lib.hid (HIV13.out.mv (w':=((((w13.setCell ⟨w11.heap.size,0,none⟩ (.string u2.name)).setCell ⟨w11.heap.size,1,none⟩ (.int .u8 u2.kind)).setCell ⟨w11.heap.size,2,none⟩ (.string u2.data)).setCell ⟨w11.heap.size,3,none⟩ (.slice A7 u2.files.length c7))) fun k h1 _=>store4_other w13 (g:=w11.heap.size) (by omega) (.string u2.name) (.int .u8 u2.kind) (.string u2.data) (.slice A7 u2.files.length c7))
           have HZ14:Hid (((((w13.setCell ⟨w11.heap.size,0,none⟩ (.string u2.name)).setCell ⟨w11.heap.size,1,none⟩ (.int .u8 u2.kind)).setCell ⟨w11.heap.size,2,none⟩ (.string u2.data)).setCell ⟨w11.heap.size,3,none⟩ (.slice A7 u2.files.length c7)).heap.size=w13.heap.size):=Lib.hid (by simp [World.setCell])
           obtain ⟨zc0,zc1,zc2,zc3⟩:=c4A I.out.now.1
           obtain ⟨zu0,zu1,zu2,zu3⟩:=u4A I.out.now.1
           obtain ⟨W14,hW14⟩:∃ W,((((w13.setCell ⟨w11.heap.size,0,none⟩ (.string u2.name)).setCell ⟨w11.heap.size,1,none⟩ (.int .u8 u2.kind)).setCell ⟨w11.heap.size,2,none⟩ (.string u2.data)).setCell ⟨w11.heap.size,3,none⟩ (.slice A7 u2.files.length c7))=W:=⟨_,rfl⟩
           rw [hW14] at HB14 HU14 HG14 HR14 HI14 HZ14
           by_cases hk4:k4=0
           rotate_left
           ·skip
            have HR8:=HR7.out
            rw [if_neg hk4] at HR8
            replace HR8:=Lib.hid HR8
            have k4a:(k4 == 0)=false:=beq_eq_false_iff_ne.2 hk4
            clear hk4
            go_wp2_with fail
            go_ret
            rw [← HR8.out]
            have HF14:=HFS0.out.below HB14.out
            exact ⟨rfl,HF14.mono (fun k h=>.inl h) (fun k h=>h.elim (fun h=>HF14.lts k h) fun h=>h.2),HR14.out,Only.of_belowV HB14.out _⟩
           ·skip
            subst hk4
            have HR8:=HR7.out
            rw [if_pos rfl] at HR8
            replace HR8:=Lib.hid HR8
            obtain ⟨lu0,lu1,lu2,lu3⟩:=c4A HU14.out
            obtain ⟨zg0,zg1,zg2,zg3⟩:=c4A HG14.out
            obtain ⟨ug0,ug1,ug2,ug3⟩:=u4A HG14.out
            go_wp2_with fail
            go_ret
            rw [← HR8.out]
            have hsz:((((W14.setCell ⟨g,0,none⟩ (.string u2.name)).setCell ⟨g,1,none⟩ (.int .u8 u2.kind)).setCell ⟨g,2,none⟩ (.string u2.data)).setCell ⟨g,3,none⟩ (.slice A7 u2.files.length c7)).heap.size=W14.heap.size:=by simp [World.setCell]
            have hz14:=HZ14.out
            have hb14:=HB14.out
            have hs13':=hq13.size
            obtain ⟨hle,hiv,hsep,htr,htb,hfl,hOm,hOlt⟩:=HFSK.out
            have htr6:=Kd.R_below htr hb14
            have htrn:=Kd.R_types htr6 HG14.out (by decide)
            have hflm:=hfl.lt
            have hmg:=(hfl.mv (hb14.block m hflm)).ne HG14.out
            have htbl:∀ k,tb=some k→k<w.heap.size:=fun k e=>hOlt k (((Kd.R_bound htr).1 k (htb.trans e)).1)
            refine ⟨rfl,⟨A7,c7,v,m,W12.heap.size,w13.heap.size,store4_box6 HG14.out _ _ _ _,hc7,HI14.out.mv fun k h1 h2=>store4_other W14 (g:=g) (by omega) _ _ _ _,fun k h1 h2=>⟨.inr ⟨by omega,by omega⟩,by omega,fun e=>by have:=htbl k e;omega⟩,Kd.R_mono (Kd.R_step htrn fun k hk _=>store4_other W14 (g:=g) hk.2 _ _ _ _) (fun k hk=>.inl hk.1),htb,hfl.mv ((store4_other W14 (g:=g) hmg _ _ _ _).trans (hb14.block m hflm)),.inl hOm,fun k h=>h.elim (fun h=>by have:=hOlt k h;omega) fun h=>h.2⟩,(store4_other W14 (g:=g) hrg _ _ _ _).trans HR14.out,?_⟩
            exact (Only.of_belowV hb14 (fun k=>k=g∨k=r)).trans (only4 W14 g _ _ _ _) (fun _ _ h=>h) (fun _ _ h=>.inl h)
end Go.Proofs.YthlcjjhfkldmhaaGreatDoor.G
end
end
section
section
namespace Go.Proofs.YthlcjjhfkldmhaaGreatDoor.G
open Go.RowKit Go.Shelf Go.Lib Go.Proofs.YthlcjjhfkldmhaaGreatDoorW.PrintWords Go.Proofs.YthlcjjhfkldmhaaGreatDoorW.PrintLast
set_option linter.unusedVariables false
def kindF (k:Int):Value:=if k=1 then (.func (.func 96) #[] #[]) else if k=2 then (.func (.func 97) #[] #[]) else if k=3 then (.func (.func 98) #[] #[]) else if k=4 then (.func (.func 99) #[] #[]) else (.func (.func 100) #[] #[])
def kindE:Array MapEntry:=#[{key:=.int .u8 1,val:=(.func (.func 96) #[] #[]),born:=0},{key:=.int .u8 2,val:=(.func (.func 97) #[] #[]),born:=1},{key:=.int .u8 3,val:=(.func (.func 98) #[] #[]),born:=2},{key:=.int .u8 4,val:=(.func (.func 99) #[] #[]),born:=3},{key:=.int .u8 5,val:=(.func (.func 100) #[] #[]),born:=4}]
def Kinded (W:World) (r:Nat):Prop:=W.heap[r]? = some (.map kindE 5)
theorem kinds_insert (w:World) (r clock:Nat) (es:Array MapEntry) (n:Int) (val:Value) (hb:w.heap[r]? = some (.map es clock)) (hf:Instr.findNow (.int .u8) (.int .u8 n) es.toList 0=some none) :
  (Instr.mapUpdate 117 (.map (some r)) (.int .u8 n) val).run Tryz.prog w=.ok () (w.putObj r (.map (es.push {key:=.int .u8 n,val:=val,born:=clock}) (clock+1))):=by
 have hc:(Instr.checkKey false 10000 38 (.int .u8 n)).run Tryz.prog w=.ok () w:=MapKept.run_checkKey Tryz.underlying38 (by simp [MapKept.IsKey]) false 9999
 simp [Instr.mapUpdate,run_underlying Tryz.underlying117,MapKept.run_getObj_map hb,hc,MapKept.run_findKey Tryz.underlying38 hf,MapKept.run_setObj_map _ hb,Result.andThen,World.putObj]
theorem lookup_kinds (W:World) (r:Nat) (k:Int) (hb:Kinded W r) (h1:1≤k) (h5:k≤5) :
  (Instr.lookup 117 (.map (some r)) (.int .u8 k) false).run Tryz.prog W=.ok (kindF k) W:=by
 have hc:∀ b,(Instr.checkKey b 10000 38 (.int .u8 k)).run Tryz.prog W=.ok () W:=fun b=>MapKept.run_checkKey Tryz.underlying38 (by simp [MapKept.IsKey]) b 9999
 unfold Kinded at hb
 have hk:k=1∨k=2∨k=3∨k=4∨k=5:=by omega
 rcases hk with rfl | rfl | rfl | rfl | rfl
 ·have hf:Instr.findNow (.int .u8) (.int .u8 1) kindE.toList 0=some (some (0,(.func (.func 96) #[] #[]))):=rfl
  simp [Instr.lookup,run_underlying Tryz.underlying117,MapKept.run_getObj_map hb,hc,MapKept.run_findKey Tryz.underlying38 hf,Result.andThen,kindF]
 ·have hf:Instr.findNow (.int .u8) (.int .u8 2) kindE.toList 0=some (some (1,(.func (.func 97) #[] #[]))):=rfl
  simp [Instr.lookup,run_underlying Tryz.underlying117,MapKept.run_getObj_map hb,hc,MapKept.run_findKey Tryz.underlying38 hf,Result.andThen,kindF]
 ·have hf:Instr.findNow (.int .u8) (.int .u8 3) kindE.toList 0=some (some (2,(.func (.func 98) #[] #[]))):=rfl
  simp [Instr.lookup,run_underlying Tryz.underlying117,MapKept.run_getObj_map hb,hc,MapKept.run_findKey Tryz.underlying38 hf,Result.andThen,kindF]
 ·have hf:Instr.findNow (.int .u8) (.int .u8 4) kindE.toList 0=some (some (3,(.func (.func 99) #[] #[]))):=rfl
  simp [Instr.lookup,run_underlying Tryz.underlying117,MapKept.run_getObj_map hb,hc,MapKept.run_findKey Tryz.underlying38 hf,Result.andThen,kindF]
 ·have hf:Instr.findNow (.int .u8) (.int .u8 5) kindE.toList 0=some (some (4,(.func (.func 100) #[] #[]))):=rfl
  simp [Instr.lookup,run_underlying Tryz.underlying117,MapKept.run_getObj_map hb,hc,MapKept.run_findKey Tryz.underlying38 hf,Result.andThen,kindF]
set_option maxHeartbeats 4000000 in
set_option maxRecDepth 100000 in
theorem kinds_calls (w:World) :
  Calls Tryz.prog 71 #[] w fun e w'=>e=.returned (.map (some w.heap.size))∧Kinded w' w.heap.size∧Below w.heap.size w w':=by
 have hmm := @run_makeMap Tryz.prog
 have hb0:(w.alloc (.map #[] 0)).heap[w.heap.size]? = some (.map #[] 0):=World.alloc_heap_new w _
 have hs0:w.heap.size<(w.alloc (.map #[] 0)).heap.size:=by simp
 have q0:Below w.heap.size w (w.alloc (.map #[] 0)):=below_alloc (Below.refl _ _) _
 have i1:=kinds_insert _ w.heap.size 0 #[] 1 (.func (.func 96) #[] #[]) hb0 rfl
 generalize e0:w.alloc (.map #[] 0)=w0 at *
 have hb1:(w0.putObj w.heap.size (.map (#[].push {key:=.int .u8 1,val:=(.func (.func 96) #[] #[]),born:=0}) (0+1))).heap[w.heap.size]? = _:=World.putObj_heap_same hs0
 have hs1:w.heap.size<(w0.putObj w.heap.size (.map (#[].push {key:=.int .u8 1,val:=(.func (.func 96) #[] #[]),born:=0}) (0+1))).heap.size:=by simpa [World.putObj] using hs0
 have q1:=bput q0 (Nat.le_refl _) (.map (#[].push {key:=.int .u8 1,val:=(.func (.func 96) #[] #[]),born:=0}) (0+1))
 have i2:=kinds_insert _ w.heap.size _ _ 2 (.func (.func 97) #[] #[]) hb1 rfl
 generalize w0.putObj w.heap.size (.map (#[].push {key:=.int .u8 1,val:=(.func (.func 96) #[] #[]),born:=0}) (0+1))=w1 at *
 have hb2:(w1.putObj w.heap.size (.map ((#[].push {key:=.int .u8 1,val:=(.func (.func 96) #[] #[]),born:=0}).push {key:=.int .u8 2,val:=(.func (.func 97) #[] #[]),born:=0+1}) (0+1+1))).heap[w.heap.size]? = _:=World.putObj_heap_same hs1
 have hs2:w.heap.size<(w1.putObj w.heap.size (.map ((#[].push {key:=.int .u8 1,val:=(.func (.func 96) #[] #[]),born:=0}).push {key:=.int .u8 2,val:=(.func (.func 97) #[] #[]),born:=0+1}) (0+1+1))).heap.size:=by simpa [World.putObj] using hs1
 have q2:=bput q1 (Nat.le_refl _) (.map ((#[].push {key:=.int .u8 1,val:=(.func (.func 96) #[] #[]),born:=0}).push {key:=.int .u8 2,val:=(.func (.func 97) #[] #[]),born:=0+1}) (0+1+1))
 have i3:=kinds_insert _ w.heap.size _ _ 3 (.func (.func 98) #[] #[]) hb2 rfl
 generalize w1.putObj w.heap.size (.map ((#[].push {key:=.int .u8 1,val:=(.func (.func 96) #[] #[]),born:=0}).push {key:=.int .u8 2,val:=(.func (.func 97) #[] #[]),born:=0+1}) (0+1+1))=w2 at *
 have hb3:(w2.putObj w.heap.size (.map (((#[].push {key:=.int .u8 1,val:=(.func (.func 96) #[] #[]),born:=0}).push {key:=.int .u8 2,val:=(.func (.func 97) #[] #[]),born:=0+1}).push {key:=.int .u8 3,val:=(.func (.func 98) #[] #[]),born:=0+1+1}) (0+1+1+1))).heap[w.heap.size]? = _:=World.putObj_heap_same hs2
 have hs3:w.heap.size<(w2.putObj w.heap.size (.map (((#[].push {key:=.int .u8 1,val:=(.func (.func 96) #[] #[]),born:=0}).push {key:=.int .u8 2,val:=(.func (.func 97) #[] #[]),born:=0+1}).push {key:=.int .u8 3,val:=(.func (.func 98) #[] #[]),born:=0+1+1}) (0+1+1+1))).heap.size:=by simpa [World.putObj] using hs2
 have q3:=bput q2 (Nat.le_refl _) (.map (((#[].push {key:=.int .u8 1,val:=(.func (.func 96) #[] #[]),born:=0}).push {key:=.int .u8 2,val:=(.func (.func 97) #[] #[]),born:=0+1}).push {key:=.int .u8 3,val:=(.func (.func 98) #[] #[]),born:=0+1+1}) (0+1+1+1))
 have i4:=kinds_insert _ w.heap.size _ _ 4 (.func (.func 99) #[] #[]) hb3 rfl
 generalize w2.putObj w.heap.size (.map (((#[].push {key:=.int .u8 1,val:=(.func (.func 96) #[] #[]),born:=0}).push {key:=.int .u8 2,val:=(.func (.func 97) #[] #[]),born:=0+1}).push {key:=.int .u8 3,val:=(.func (.func 98) #[] #[]),born:=0+1+1}) (0+1+1+1))=w3 at *
 have hb4:(w3.putObj w.heap.size (.map ((((#[].push {key:=.int .u8 1,val:=(.func (.func 96) #[] #[]),born:=0}).push {key:=.int .u8 2,val:=(.func (.func 97) #[] #[]),born:=0+1}).push {key:=.int .u8 3,val:=(.func (.func 98) #[] #[]),born:=0+1+1}).push {key:=.int .u8 4,val:=(.func (.func 99) #[] #[]),born:=0+1+1+1}) (0+1+1+1+1))).heap[w.heap.size]? = _:=World.putObj_heap_same hs3
 have hs4:w.heap.size<(w3.putObj w.heap.size (.map ((((#[].push {key:=.int .u8 1,val:=(.func (.func 96) #[] #[]),born:=0}).push {key:=.int .u8 2,val:=(.func (.func 97) #[] #[]),born:=0+1}).push {key:=.int .u8 3,val:=(.func (.func 98) #[] #[]),born:=0+1+1}).push {key:=.int .u8 4,val:=(.func (.func 99) #[] #[]),born:=0+1+1+1}) (0+1+1+1+1))).heap.size:=by simpa [World.putObj] using hs3
 have q4:=bput q3 (Nat.le_refl _) (.map ((((#[].push {key:=.int .u8 1,val:=(.func (.func 96) #[] #[]),born:=0}).push {key:=.int .u8 2,val:=(.func (.func 97) #[] #[]),born:=0+1}).push {key:=.int .u8 3,val:=(.func (.func 98) #[] #[]),born:=0+1+1}).push {key:=.int .u8 4,val:=(.func (.func 99) #[] #[]),born:=0+1+1+1}) (0+1+1+1+1))
 have i5:=kinds_insert _ w.heap.size _ _ 5 (.func (.func 100) #[] #[]) hb4 rfl
 generalize w3.putObj w.heap.size (.map ((((#[].push {key:=.int .u8 1,val:=(.func (.func 96) #[] #[]),born:=0}).push {key:=.int .u8 2,val:=(.func (.func 97) #[] #[]),born:=0+1}).push {key:=.int .u8 3,val:=(.func (.func 98) #[] #[]),born:=0+1+1}).push {key:=.int .u8 4,val:=(.func (.func 99) #[] #[]),born:=0+1+1+1}) (0+1+1+1+1))=w4 at *
 have hb5:(w4.putObj w.heap.size (.map (((((#[].push {key:=.int .u8 1,val:=(.func (.func 96) #[] #[]),born:=0}).push {key:=.int .u8 2,val:=(.func (.func 97) #[] #[]),born:=0+1}).push {key:=.int .u8 3,val:=(.func (.func 98) #[] #[]),born:=0+1+1}).push {key:=.int .u8 4,val:=(.func (.func 99) #[] #[]),born:=0+1+1+1}).push {key:=.int .u8 5,val:=(.func (.func 100) #[] #[]),born:=0+1+1+1+1}) (0+1+1+1+1+1))).heap[w.heap.size]? = _:=World.putObj_heap_same hs4
 have q5:=bput q4 (Nat.le_refl _) (.map (((((#[].push {key:=.int .u8 1,val:=(.func (.func 96) #[] #[]),born:=0}).push {key:=.int .u8 2,val:=(.func (.func 97) #[] #[]),born:=0+1}).push {key:=.int .u8 3,val:=(.func (.func 98) #[] #[]),born:=0+1+1}).push {key:=.int .u8 4,val:=(.func (.func 99) #[] #[]),born:=0+1+1+1}).push {key:=.int .u8 5,val:=(.func (.func 100) #[] #[]),born:=0+1+1+1+1}) (0+1+1+1+1+1))
 have HW:Hid (Kinded (w4.putObj w.heap.size (.map (((((#[].push {key:=.int .u8 1,val:=(.func (.func 96) #[] #[]),born:=0}).push {key:=.int .u8 2,val:=(.func (.func 97) #[] #[]),born:=0+1}).push {key:=.int .u8 3,val:=(.func (.func 98) #[] #[]),born:=0+1+1}).push {key:=.int .u8 4,val:=(.func (.func 99) #[] #[]),born:=0+1+1+1}).push {key:=.int .u8 5,val:=(.func (.func 100) #[] #[]),born:=0+1+1+1+1}) (0+1+1+1+1+1))) w.heap.size):=Lib.hid hb5
 generalize w4.putObj w.heap.size (.map (((((#[].push {key:=.int .u8 1,val:=(.func (.func 96) #[] #[]),born:=0}).push {key:=.int .u8 2,val:=(.func (.func 97) #[] #[]),born:=0+1}).push {key:=.int .u8 3,val:=(.func (.func 98) #[] #[]),born:=0+1+1}).push {key:=.int .u8 4,val:=(.func (.func 99) #[] #[]),born:=0+1+1+1}).push {key:=.int .u8 5,val:=(.func (.func 100) #[] #[]),born:=0+1+1+1+1}) (0+1+1+1+1+1))=w5 at *
 clear hb0 hb1 hb2 hb3 hb4 hb5 hs0 hs1 hs2 hs3 hs4 q0 q1 q2 q3 q4
 have Q5:=Lib.hid q5
 clear q5
 go_enter Tryz.func71,Tryz.ntmps71
 go_wp2
 go_ret
 exact ⟨rfl,HW.out,Q5.out⟩
end Go.Proofs.YthlcjjhfkldmhaaGreatDoor.G
end
section
namespace Go.Proofs.YthlcjjhfkldmhaaGreatDoor.G
open Go.RowKit Go.Lib Go.Proofs.YthlcjjhfkldmhaaGreatDoorW.PrintWords Go.Proofs.YthlcjjhfkldmhaaGreatDoorW.PrintLast
set_option linter.unusedVariables false
def kindN (k:Int):Nat:=if k=1 then 96 else if k=2 then 97 else if k=3 then 98 else if k=4 then 99 else 100
theorem kindF_N (k:Int):kindF k=.func (.func (kindN k)) #[] #[]:=by
 unfold kindF kindN
 repeat' split
 all_goals rfl
theorem op_fs (k:Int) (h1:1≤k) (h5:k≤5) (w:World) (g r:Nat) (O:Nat→Prop) (tb:Option Nat) (f:FsV) (x:Req) (Ap:Option Addr) (cp:Nat) (Ad:Option Addr) (cd:Nat) (hfs:FsAt w g O tb f) (hreq:w.heap[r]? = some (.cells #[.slice Ap x.p.length cp,.slice Ad x.dest.length cd,.string x.data,.int .u8 0,.int .i64 0] 97 (0,0))) (hrg:r≠g) (hrO:¬ O r) (hbt:f.tree.bulk≤100000000) (hp:Kd.C Kd.string w Ap x.p.length x.p) (hcp:x.p.length≤cp) (hps:P.sumP x.p≤1024) (hpd:Kd.C Kd.string w Ad x.dest.length x.dest) (hcd:x.dest.length≤cd) (hpt:P.sumP x.dest≤1024) (hdb:x.data.size≤100000000) :
  Calls Tryz.prog (kindN k) #[.pointer (some ⟨g,0,none⟩),.pointer (some ⟨r,0,none⟩)] w fun e w'=>OpPost w g r O tb f x Ap cp Ad cd (opR k f.tree x) e w':=by
 have hk:k=1∨k=2∨k=3∨k=4∨k=5:=by omega
 rcases hk with rfl | rfl | rfl | rfl | rfl
 ·exact lstat_fs w g r O tb f x Ap cp Ad cd hfs hreq hrg hrO hbt hp hcp hps hdb
 ·exact read_fs w g r O tb f x Ap cp Ad cd hfs hreq hrg hrO hbt hp hcp hps hdb
 ·exact create_fs w g r O tb f x Ap cp Ad cd hfs hreq hrg hrO hbt hp hcp hps hdb
 ·exact append_fs w g r O tb f x Ap cp Ad cd hfs hreq hrg hrO hbt hp hcp hps hdb
 ·exact rename_fs w g r O tb f x Ap cp Ad cd hfs hreq hrg hrO hbt hp hcp hps hpd hcd hpt hdb
end Go.Proofs.YthlcjjhfkldmhaaGreatDoor.G
end
section
namespace Go.Proofs.YthlcjjhfkldmhaaGreatDoor.G
open Go.RowKit Go.Lib Go.Proofs.YthlcjjhfkldmhaaGreatDoorW.PrintWords Go.Proofs.YthlcjjhfkldmhaaGreatDoorW.PrintLast
set_option linter.unusedVariables false
set_option linter.unusedSimpArgs false
def CallPost (w:World) (g r:Nat) (O:Nat→Prop) (tb:Option Nat) (f:FsV) (x:Req) (Ap:Option Addr) (cp:Nat) (Ad:Option Addr) (cd:Nat) (res:FsV×Told×Int) (e:Ending) (w':World):Prop :=
 e=.returned (.int .i64 res.2.2)∧(∃ tb',(tb'=tb∨∃ j,tb'=some j∧w.heap.size≤j)∧FsAt w' g (fun k=>O k∨w.heap.size≤k∧k<w'.heap.size) tb' res.1)∧w'.heap[r]? = some (.cells (reqCells x Ap cp Ad cd res.2.1) 97 (0,0))∧Only (fun k=>k=g∨k=r∨tb=some k) w w'
theorem info_call:(Tryz.prog.info? 79).map (fun i=>(i.zero,i.size,i.bytes))=some (some (.agg #[.int .u8 0,.slice none 0 0,.slice none 0 0,.int .i64 0]),4,64):=by kernel_rfl
set_option maxHeartbeats 8000000 in
set_option maxRecDepth 100000 in
theorem call_fs (k:Int) (h1:1≤k) (h5:k≤5) (w:World) (g r:Nat) (O:Nat→Prop) (tb:Option Nat) (f:FsV) (x:Req) (Ap:Option Addr) (cp:Nat) (Ad:Option Addr) (cd:Nat) (hfs:FsAt w g O tb f) (hreq:w.heap[r]? = some (.cells #[.slice Ap x.p.length cp,.slice Ad x.dest.length cd,.string x.data,.int .u8 0,.int .i64 0] 97 (0,0))) (hrg:r≠g) (hrO:¬ O r) (hgO:¬ O g) (hbt:f.tree.bulk≤100000000) (HP:Kd.F Kd.string w (fun k=>k≠g∧k≠r∧tb≠some k) Ap x.p.length x.p) (hcp:x.p.length≤cp) (hpB:P.sumP x.p≤1099511627776) (HPD:Kd.F Kd.string w (fun k=>k≠g∧k≠r∧tb≠some k) Ad x.dest.length x.dest) (hcd:x.dest.length≤cd) (hdB:P.sumP x.dest≤1099511627776) (hdb:x.data.size≤100000000) (htl:f.trace.length≤2000000) :
  Calls Tryz.prog 46 #[.pointer (some ⟨g,0,none⟩),.int .u8 k,.pointer (some ⟨r,0,none⟩)] w fun e w'=>CallPost w g r O tb f x Ap cp Ad cd (callV f k x) e w':=by
 have hp:=Kd.F_now HP
 have hpd:=Kd.F_now HPD
 replace HP:=Lib.hid HP
 replace HPD:=Lib.hid HPD
 have HFS0:=Lib.hid hfs
 obtain ⟨A,c,v,m,lo,hi,hbox,hle,hiv,hsep,htr,htb,hfl,hOm,hOlt⟩:=hfs
 unfold fsCells at hbox
 obtain ⟨AT,ct,rfl⟩:=Kd.R_slice htr
 have HFL:=Lib.hid (show Hd (fun W=>Faulted W m f.faults) w from fun W hW=>hfl.mv (hW.block m hfl.lt))
 obtain ⟨bf,hbf⟩:∃ b,decide ((f.trace.length:Int)∈f.faults)=b:=⟨_,rfl⟩
 have HBF:=Lib.hid hbf
 clear hbf
 have hgl:=blk_lt hbox
 have hrl:=blk_lt hreq
 have HTR0:=Lib.hid htr
 have HTB0:=Lib.hid htb
 have HFSK:=Lib.hid (And.intro hle (And.intro hiv (And.intro hsep (And.intro htr (And.intro htb (And.intro hfl (And.intro hOm hOlt)))))))
 have hlen:=P.sumP_len x.p
 have hlen2:=P.sumP_len x.dest
 have hb0:=Below.refl w.heap.size w
 have I:=Lib.hid (Hd.base hb0 (by first | exact Nat.le_refl _ | exact Below.size hb0))
 replace I:=Lib.hid (Hd.and I.out (Hd.box hbox))
 replace I:=Lib.hid (Hd.and I.out (Hd.box hreq))
 replace I:=Lib.hid (Hd.and I.out (Hd.reads (hp)))
 replace I:=Lib.hid (Hd.and I.out (Hd.reads (hpd)))
 replace I:=Lib.hid (Hd.and I.out (HFL.out))
 obtain ⟨b1,hb1⟩:∃ b,P.rightB x.p=b:=⟨_,rfl⟩
 obtain ⟨b2,hb2⟩:∃ b,P.rightB x.dest=b:=⟨_,rfl⟩
 have HB1:=Lib.hid hb1
 have HB2:=Lib.hid hb2
 obtain ⟨⟨tr,tl,wy⟩,hrs⟩:∃ r,(if (f.trace.length:Int)∈f.faults then (f.tree,told0 x.data,42) else opR k f.tree x)=r:=⟨_,rfl⟩
 have HRS:=Lib.hid hrs
 clear hb1 hb2 hrs hiv hsep htr hfl hOm hOlt hp hpd hbox htb hreq
 go_enter Tryz.func46,Tryz.ntmps46
 obtain ⟨lr0,lr1,lr2,lr3,lr4⟩:=c5A I.out.now.2.2.2.1
 go_wp2_with fail
 clear lr0 lr1 lr2 lr3 lr4
 refine (show Calls Tryz.prog 36 #[.slice Ap x.p.length cp] w _ from P.right_calls Ap cp x.p w I.out.now.2.2.1 hcp (by omega) (by omega)).mono ?_
 rw [HB1.out]
 rintro e w1 ⟨rfl,hq1⟩
 replace I:=Lib.hid (Hd.mv I.out hq1)
 cases b1
 ·skip
  go_wp2_with fail
  have hbw1:=I.out.now.2.2.2.2.2
  have HFS1:=Lib.hid (HFS0.out.below hbw1)
  have hs1:=hbw1.size
  have HRQ1:=Lib.hid I.out.now.2.2.2.1
  go_ret
  have hcv:callV f k x=(f,told0 x.data,20):=by unfold callV;exact if_neg (fun h=>absurd (h.1.symm.trans HB1.out) (by decide))
  rw [hcv]
  exact ⟨rfl,⟨tb,.inl rfl,HFS1.out.mono (fun k h=>.inl h) (fun k h=>h.elim (fun h=>HFS1.out.lts k h) fun h=>h.2)⟩,HRQ1.out,Only.of_belowV hbw1 _⟩
 ·skip
  obtain ⟨lr0,lr1,lr2,lr3,lr4⟩:=c5A I.out.now.2.2.2.1
  go_wp2_with fail
  clear lr0 lr1 lr2 lr3 lr4
  refine (show Calls Tryz.prog 36 #[.slice Ad x.dest.length cd] w1 _ from P.right_calls Ad cd x.dest w1 I.out.now.2.1 hcd (by omega) (by omega)).mono ?_
  rw [HB2.out]
  rintro e w2 ⟨rfl,hq2⟩
  replace I:=Lib.hid (Hd.mv I.out hq2)
  cases b2
  ·skip
   go_wp2_with fail
   have hbw2:=I.out.now.2.2.2.2.2
   have HFS2:=Lib.hid (HFS0.out.below hbw2)
   have hs2:=hbw2.size
   have HRQ2:=Lib.hid I.out.now.2.2.2.1
   go_ret
   have hcv:callV f k x=(f,told0 x.data,20):=by unfold callV;exact if_neg (fun h=>absurd (h.2.symm.trans HB2.out) (by decide))
   rw [hcv]
   exact ⟨rfl,⟨tb,.inl rfl,HFS2.out.mono (fun k h=>.inl h) (fun k h=>h.elim (fun h=>HFS2.out.lts k h) fun h=>h.2)⟩,HRQ2.out,Only.of_belowV hbw2 _⟩
  ·skip
   have hps:=P.rightB_sum HB1.out
   have hpt:=P.rightB_sum HB2.out
   go_wp2_with fail
   refine start_ (n:=11) (S:=fun w'=>w'.heap[g]? = some (.cells #[.string f.tree.name,.int .u8 f.tree.kind,.string f.tree.data,.slice A f.tree.files.length c,.slice AT f.trace.length ct,.map (some m)] 68 (0,0))∧Faulted w' m f.faults) (ds:=[]) (bq 11 0) (by kernel_rfl) rfl rfl ⟨(I.out _ (bdrew (Below.refl w2.heap.size w2))).2.2.2.2.1,(I.out _ (bdrew (Below.refl w2.heap.size w2))).1⟩ (fun hHeld => ?_)
   refine pA 0 25 (bq 11 1) ?_
   refine pA 1 26 (bq 11 3) ?_
   refine pA 2 27 (bq 11 7) ?_
   refine pA 4 29 (bq 11 23) ?_
   refine pA 5 30 (bq 11 55) ?_
   refine pA 6 31 (bq 11 119) ?_
   refine tA 3 28 (bq 11 127) hHeld ?_ (hy:=by
    rintro w' ⟨s0,s1⟩
    have q0:=cell_of (j:=0) s0 rfl
    have q1:=cell_of (j:=1) s0 rfl
    have q2:=cell_of (j:=2) s0 rfl
    have q3:=cell_of (j:=3) s0 rfl
    have q4:=cell_of (j:=4) s0 rfl
    have q5:=cell_of (j:=5) s0 rfl
    go_simp
    with_reducible rfl)
   refine tA 7 32 (bq 11 255) hHeld ?_ (hy:=by
    rintro w' ⟨s0,s1⟩
    have q0:=cell_of (j:=0) s0 rfl
    have q1:=cell_of (j:=1) s0 rfl
    have q2:=cell_of (j:=2) s0 rfl
    have q3:=cell_of (j:=3) s0 rfl
    have q4:=cell_of (j:=4) s0 rfl
    have q5:=cell_of (j:=5) s0 rfl
    go_simp
    with_reducible rfl)
   refine pA 8 33 (bq 11 511) ?_
   refine tA 9 34 (bq 11 1023) hHeld ?_ (hy:=by
    rintro w' ⟨s0,s1⟩
    have hlk:=fault_lookup s1 (f.trace.length:Int)
    rw [HBF.out] at hlk
    go_simp
    with_reducible rfl)
   refine pA 10 35 (bq 11 2047) ?_
   refine done_ (by kernel_rfl) ?_
   have hq3:=(bdrew (Below.refl w2.heap.size w2))
   clear hHeld
   replace I:=Lib.hid (Hd.mv I.out hq3)
   generalize w2.drew=W3 at *
   have hbw3:=I.out.now.2.2.2.2.2
   have HFS3:=Lib.hid (HFS0.out.below hbw3)
   have hs3:=hbw3.size
   have HRQ3:=Lib.hid I.out.now.2.2.2.1
   rename_i K1 hK1 K2 hK2
   have HT:Hid (∀ (a:Act) (W5:World),(fun a W5=>(∃ v3 v4 v5 v6 v8 v9 v10 v11 v12 v13 v14 v15 v16 v17 v18 v19 v20 v21 v22 v23 v24 v25 v26 v27 v28 v29 v30 v31 v32 v33 v34 v35 v36 v37 v38 v39 v40 v41 v42 v43 v44 v45 v46 v47 v48 v49 v50 v51 v52 v53 v54 v55 v56 v57 v58 v59 v60 v61 v62 v63 v64 v65 v66 v67 v68,a={tmps:=#[.pointer (some ⟨g,0,none⟩),.int .u8 k,.pointer (some ⟨r,0,none⟩),v3,v4,v5,v6,.int .i64 wy,v8,v9,v10,v11,v12,v13,v14,v15,v16,v17,v18,v19,v20,v21,v22,v23,v24,v25,v26,v27,v28,v29,v30,v31,v32,v33,v34,v35,v36,v37,v38,v39,v40,v41,v42,v43,v44,v45,v46,v47,v48,v49,v50,v51,v52,v53,v54,v55,v56,v57,v58,v59,v60,v61,v62,v63,v64,v65,v66,v67,v68],defers:=[]})∧FsAt W5 g (fun k=>O k∨w.heap.size≤k∧k<W5.heap.size) tb {f with tree:=tr}∧W5.heap[r]? = some (.cells (reqCells x Ap cp Ad cd tl) 97 (0,0))∧Only (fun k=>k=g∨k=r) w W5) a W5→K1 a W5):=Lib.hid ?tail
   case tail =>
    intro a W5 hF5
    obtain ⟨⟨v3,v4,v5,v6,v8,v9,v10,v11,v12,v13,v14,v15,v16,v17,v18,v19,v20,v21,v22,v23,v24,v25,v26,v27,v28,v29,v30,v31,v32,v33,v34,v35,v36,v37,v38,v39,v40,v41,v42,v43,v44,v45,v46,v47,v48,v49,v50,v51,v52,v53,v54,v55,v56,v57,v58,v59,v60,v61,v62,v63,v64,v65,v66,v67,v68,rfl⟩,hF5,hr5,ho5⟩:=hF5
    refine hK1 _ _ ?_
    have HF5:=Lib.hid hF5
    have HR5:=Lib.hid hr5
    have HO5:=Lib.hid ho5
    clear hF5 hr5 ho5 HFS3 HRQ3 hbw3 hs3
    have ho5:=HO5.out
    have HP5:=Lib.hid (Kd.F_step HP.out fun k hk hl=>ho5.block k hl fun e=>e.elim hk.1 hk.2.1)
    have HPD5:=Lib.hid (Kd.F_step HPD.out fun k hk hl=>ho5.block k hl fun e=>e.elim hk.1 hk.2.1)
    have hgl5':=HF5.out.lt
    clear ho5 I
    have I:=Lib.hid (Hd.base (Below.refl W5.heap.size W5) (by first | exact Nat.le_refl _ | exact Below.size (Below.refl W5.heap.size W5)))
    replace I:=Lib.hid (Hd.and I.out (Hd.box HR5.out))
    replace I:=Lib.hid (Hd.and I.out (Hd.reads (Kd.F_now HP5.out)))
    replace I:=Lib.hid (Hd.and I.out (Hd.reads (Kd.F_now HPD5.out)))
    replace I:=Lib.hid (Hd.and I.out ((show Hd (fun W=>FsAt W g (fun k=>O k∨w.heap.size≤k∧k<W5.heap.size) tb {f with tree:=tr}) W5 from fun W hW=>HF5.out.below hW)))
    have HRR:=Lib.hid (show _=some (Obj.cells #[.slice Ap x.p.length cp,.slice Ad x.dest.length cd,.string tl.data,.int .u8 tl.kind,.int .i64 tl.size] 97 (0,0)) from I.out.now.2.2.2.1)
    obtain ⟨lr0,lr1,lr2,lr3,lr4⟩:=c5A HRR.out
    go_wp2_with fail
    clear lr0 lr1 lr2 lr3 lr4 HRR
    refine ((P.clone_calls Ap cp x.p W5 I.out.now.2.2.1 hcp (by omega))).mono ?_
    rintro e w1 ⟨v1,rfl,hR1,hq1⟩
    replace I:=Lib.hid (Hd.mv I.out hq1)
    have hsc1:=hq1.size
    replace I:=Lib.hid (Hd.and I.out (Hd.rows (Kd.R_elderB hR1 w1.heap.size (Nat.le_refl _))))
    obtain ⟨A1,c1,rfl⟩:=Kd.R_slice hR1
    clear hR1
    by_cases hkk:k=5
    rotate_left
    ·skip
     have hkb:(k == 5)=false:=beq_eq_false_iff_ne.2 hkk
     have HDL:=Lib.hid (show (if k=5 then x.dest else [])=[] from if_neg hkk)
     clear hkk
     have ha2:=below_alloc (Below.refl w1.heap.size w1) (.cells #[.int .u8 k,.slice A1 x.p.length c1,.slice none 0 0,.int .i64 wy] 79)
     replace I:=Lib.hid (Hd.mv I.out ha2)
     replace I:=Lib.hid (Hd.and I.out (Hd.box (blk_new w1 (.cells #[.int .u8 k,.slice A1 x.p.length c1,.slice none 0 0,.int .i64 wy] 79))))
     go_wp2_with fail
     generalize (w1.alloc (.cells #[.int .u8 k,.slice A1 x.p.length c1,.slice none 0 0,.int .i64 wy] 79))=W2 at *
     have hqd:=bdrew (Below.refl W2.heap.size W2)
     replace I:=Lib.hid (Hd.mv I.out hqd)
     have HFS9:=Lib.hid I.out.now.2.2.1
     obtain ⟨A5,c5,v5,m5,lo5,hi5,hbox5,hle5,hiv5,hsep5,htr5,htb5,hfl5,hOm5,hOlt5⟩:=I.out.now.2.2.1
     unfold fsCells at hbox5
     obtain ⟨AT5,ct5,rfl⟩:=Kd.R_slice htr5
     simp only at hbox5 hle5 htr5 hfl5 hiv5
     have HG5:=Lib.hid hbox5
     have HIV5:=Lib.hid hiv5
     have HTR5:=Lib.hid htr5
     have HTB5:=Lib.hid htb5
     have HFL5:=Lib.hid hfl5
     have hgl5:=blk_lt hbox5
     have hml5:=hfl5.lt
     have hmg5:=hfl5.ne hbox5
     have hcl5:=blk_lt I.out.now.1
     have hbw5:=I.out.now.2.2.2.2.2.2
     have hsw5:=hbw5.size
     have htl5:∀ k,tb=some k→O k:=fun k e=>by
      have h:=((Kd.R_bound HTR0.out).1 k (HTB0.out.trans e)).1
      exact h
     have hlt0:∀ k,O k→k<w.heap.size:=HFS0.out.lts
     have hso5:=HO5.out.size
     clear hbox5 hiv5 htr5 htb5 hfl5
     refine start_ (n:=11) (S:=fun w'=>w'.heap[g]? = some (.cells #[.string tr.name,.int .u8 tr.kind,.string tr.data,.slice A5 tr.files.length c5,.slice AT5 f.trace.length ct5,.map (some m5)] 68 (0,0))∧w'.heap[w1.heap.size]? = some (.cells #[.int .u8 k,.slice A1 x.p.length c1,.slice none 0 0,.int .i64 wy] 79 (0,0))) (ds:=[10]) (bq 11 0) (by kernel_rfl) rfl rfl ⟨HG5.out,I.out.now.1⟩ (fun hHeld => ?_)
     generalize W2.drew=WD at *
     refine pA 0 58 (bq 11 1) ?_
     refine pA 1 59 (bq 11 3) ?_
     refine pA 2 60 (bq 11 7) ?_
     refine pA 3 61 (bq 11 15) ?_
     refine tA 4 62 (bq 11 31) hHeld ?_ (hy:=by
      rintro w' ⟨s0,s1⟩
      have q0:=cell_of (j:=0) s0 rfl
      have q1:=cell_of (j:=1) s0 rfl
      have q2:=cell_of (j:=2) s0 rfl
      have q3:=cell_of (j:=3) s0 rfl
      have q4:=cell_of (j:=4) s0 rfl
      have q5:=cell_of (j:=5) s0 rfl
      go_simp
      with_reducible rfl)
     refine tA 5 63 (bq 11 63) hHeld ?_ (hy:=by
      rintro w' ⟨s0,s1⟩
      have q0:=cell_of (j:=0) s1 rfl
      have q1:=cell_of (j:=1) s1 rfl
      have q2:=cell_of (j:=2) s1 rfl
      have q3:=cell_of (j:=3) s1 rfl
      go_simp
      with_reducible rfl)
     refine eA 6 64 (bq 11 127) (fun K hK => ?_)
     refine vA ?_
     have hba:=below_alloc (Below.refl WD.heap.size WD) (.cells #[.int .u8 k,.slice A1 x.p.length c1,.slice none 0 0,.int .i64 wy] 79)
     refine hK.out _ _ ⟨(hba.block _ hgl5).trans HG5.out,(hba.block _ hcl5).trans I.out.now.1⟩ (fun hHeld => ?_)
     refine nA 64 ?_
     refine eA 7 65 (bq 11 255) (fun K hK => ?_)
     refine Kd.R_append_step CallK (w0:=WD) 0 (by rfl) (.tmp 62) (.tmp 64) 34 79 (.agg #[.int .u8 0,.slice none 0 0,.slice none 0 0,.int .i64 0]) 64 rfl Tryz.underlying34 info_call rfl (by decide) (by omega) (.slice AT5 f.trace.length ct5) f.trace ⟨k,x.p,[],wy⟩ [.int .u8 k,.slice A1 x.p.length c1,.slice none 0 0,.int .i64 wy] (fun j=>O j∨w.heap.size≤j) (fun j=>W5.heap.size≤j) rfl rfl ?aP ?aK ?aF ?aO ?aB ?aS ?aL ?_
     case aP=>exact call_mkM _ 0 _ ⟨k,x.p,[],wy⟩ (Kd.R_lower (Kd.R_mono (Kd.R_bound I.out.now.2.1) fun j hj=>hj.2.1) (Nat.zero_le _)) (Kd.R_nil _ _ _ _ _)
     case aK=>exact fun j hj=>⟨.inr (by omega),fun e=>by
      have h:=htl5 j (HTB5.out.symm.trans e.symm)
      have:=hlt0 j h
      omega⟩
     case aF=>exact fun j hj=>.inr (by omega)
     case aO=>exact Kd.R_mono HTR5.out fun j hj=>hj.imp id fun h=>h.1
     case aB=>exact Below.refl _ _
     case aS=>exact Nat.zero_le _
     case aL=>omega
     intro v2 w2 ho2 hb2 hg2 hat2
     have HO2:=Lib.hid ho2
     have HB2':=Lib.hid hb2
     have hs2':=hg2.size
     have HOG:=Lib.hid (Only.grown_of hg2)
     have hne2:∀ j,(O j→tb≠some j)→j<WD.heap.size→w2.heap[j]? = WD.heap[j]? := fun j hj hl=>hg2.block j hl (fun e=>by
      have e2:=HTB5.out.symm.trans e.symm
      exact hj (htl5 j e2) e2)
     have HG6:=Lib.hid ((hne2 g (fun h=>absurd h hgO) hgl5).trans HG5.out)
     have HC6:=Lib.hid ((hne2 w1.heap.size (fun h=>by have:=hlt0 _ h;omega) hcl5).trans I.out.now.1)
     have HIV6:=Lib.hid (HIV5.out.mv fun j h1 h2=>hne2 j (fun _=>(hsep5 j h1 h2).2.2) (HFS9.out.lts j (hsep5 j h1 h2).1))
     have HFL6:=Lib.hid (HFL5.out.mv (hne2 m5 (fun _ => ?aM) hml5))
     case aM =>
      intro e
      obtain ⟨cells,hc⟩:=Kd.R_typed HTR5.out m5 (HTB5.out.trans e)
      obtain ⟨es,clock,hm,_⟩:=HFL5.out
      rw [hm] at hc
      cases hc
     have HX6:Hid (∀ j,j<WD.heap.size→tb≠some j→w2.heap[j]? = WD.heap[j]?):=Lib.hid fun j hl h=>hne2 j (fun _=>h) hl
     have HV2:Hid (v2.ownBlock=tb∨∃ b,v2.ownBlock=some b∧WD.heap.size≤b):=Lib.hid (hat2.imp (fun h=>h.trans HTB5.out) id)
     obtain ⟨AT6,ct6,rfl⟩:=Kd.R_slice ho2
     clear ho2 hb2 hg2 hat2 hne2
     have hlen6:(f.trace++[(⟨k,x.p,[],wy⟩:Call)]).length=f.trace.length+1:=by simp
     rw [hlen6] at HO2 HV2
     refine hK.out _ _ ⟨HG6.out,HC6.out⟩ (fun hHeld => ?_)
     refine nA 65 ?_
     refine pA 8 66 (bq 11 511) ?_
     refine pA 9 67 (bq 11 1023) ?_
     refine last_ (i:=10) (N:=none) (bq 11 2047) rfl rfl (by kernel_rfl) (by decide) (fun K hK => ?_)
     have zg4:=cell_of (j:=4) HG6.out rfl
     have ug4:=unfr HG6.out 4
     refine sA ?_
     refine hK.out _ _ ?_
     refine done_ (by kernel_rfl) ?_
     go_wp2_with fail
     go_ret
     have hcv:callV f k x=(⟨tr,f.trace++[⟨k,x.p,[],wy⟩],f.faults⟩,tl,wy):=by
      unfold callV
      rw [if_pos ⟨HB1.out,HB2.out⟩]
      simp only [HRS.out,HDL.out]
     rw [hcv]
     have hz9:(w2.setCell ⟨g,4,none⟩ (.slice AT6 (f.trace.length+1) ct6)).heap.size=w2.heap.size:=by simp [World.setCell]
     have htb9:∀ j,tb=some j→j<w.heap.size:=fun j e=>hlt0 j (htl5 j e)
     refine ⟨rfl,⟨_,HV2.out.imp id (fun ⟨b,e,h⟩=>⟨b,e,by omega⟩),?_⟩,?_,?_⟩
     ·refine ⟨A5,c5,.slice AT6 (f.trace.length+1) ct6,m5,lo5,hi5,?_,hle5,HIV6.out.mv fun k h1 h2=>Below.heap_setCell _ _ _ _ (hsep5 k h1 h2).2.1,fun k h1 h2=>⟨(hsep5 k h1 h2).1.imp id fun h=>⟨h.1,by omega⟩,(hsep5 k h1 h2).2.1,fun e => ?_⟩,?_,rfl,HFL6.out.mv (Below.heap_setCell _ _ _ _ hmg5),hOm5.imp id fun h=>⟨h.1,by omega⟩,fun k h=>h.elim (fun h=>by have:=hlt0 k h;omega) fun h=>h.2⟩
      ·have h:=blk_put (cs:=#[.string tr.name,.int .u8 tr.kind,.string tr.data,.slice A5 tr.files.length c5,.slice AT5 f.trace.length ct5,.map (some m5)]) HG6.out 4 (.slice AT6 (f.trace.length+1) ct6) rfl
       exact h
      ·rcases HV2.out with h | ⟨b,h,hb⟩
       ·exact (hsep5 k h1 h2).2.2 (h.symm.trans e)
       ·have h9:=HFS9.out.lts k (hsep5 k h1 h2).1
        rw [h] at e
        injection e with e
        omega
      ·exact Kd.R_mono (Kd.R_bound (Kd.R_step (Kd.R_types HO2.out HG6.out (by decide)) fun k hk _=>Below.heap_setCell _ _ _ _ hk.2)) fun k hk=>hk.1.1.imp id fun h=>⟨h,hk.2.2.1⟩
     ·exact (Below.heap_setCell _ _ _ _ hrg).trans ((HX6.out r (by omega) (fun e=>hrO (htl5 r e))).trans I.out.now.2.2.2.2.2.1)
     ·exact ((HO5.out.trans (Only.of_belowV hbw5 fun _=>False) (K:=fun k=>k=g∨k=r∨tb=some k) (fun _ _ h=>h.elim .inl fun h=>.inr (.inl h)) (fun _ _ h=>h.elim)).trans HOG.out (fun _ _ h=>h) (fun _ _ h=>.inr (.inr (HTB5.out.symm.trans h)))).trans (Only.setCell _ _ _) (fun _ _ h=>h) (fun _ _ h=>.inl h)
    ·skip
     have hkb:(k == 5)=true:=beq_iff_eq.2 hkk
     have HDL:=Lib.hid (show (if k=5 then x.dest else [])=x.dest from if_pos hkk)
     clear hkk
     have ha2:=below_alloc (Below.refl w1.heap.size w1) (.cells #[.int .u8 k,.slice A1 x.p.length c1,.slice none 0 0,.int .i64 wy] 79)
     replace I:=Lib.hid (Hd.mv I.out ha2)
     replace I:=Lib.hid (Hd.and I.out (Hd.box (blk_new w1 (.cells #[.int .u8 k,.slice A1 x.p.length c1,.slice none 0 0,.int .i64 wy] 79))))
     have HRR:=Lib.hid (show _=some (Obj.cells #[.slice Ap x.p.length cp,.slice Ad x.dest.length cd,.string tl.data,.int .u8 tl.kind,.int .i64 tl.size] 97 (0,0)) from I.out.now.2.2.2.2.2.1)
     obtain ⟨lr0,lr1,lr2,lr3,lr4⟩:=c5A HRR.out
     go_wp2_with fail
     clear lr0 lr1 lr2 lr3 lr4 HRR
     generalize (w1.alloc (.cells #[.int .u8 k,.slice A1 x.p.length c1,.slice none 0 0,.int .i64 wy] 79))=W2 at *
     have hbl:=blk_lt I.out.now.1
     refine ((P.clone_calls Ad cd x.dest W2 I.out.now.2.2.2.1 hcd (by omega))).mono ?_
     rintro e w3 ⟨v2,rfl,hR2,hq3⟩
     replace I:=Lib.hid (Hd.mv I.out hq3)
     have HQ2:=Lib.hid (Kd.R_mono (Kd.R_bound hR2) (ok':=fun k=>W2.heap.size≤k) fun k hk=>hk.2.1)
     obtain ⟨A2,c2,rfl⟩:=Kd.R_slice hR2
     clear hR2
     have zc2:=cell_of (j:=2) I.out.now.1 rfl
     have zu2:=unfr I.out.now.1 2
     have hlt9:=HF5.out.lts
     have hb9:=Below.setCell (p:=⟨w1.heap.size,2,none⟩) I.out.now.2.2.2.2.2.2 (by simp only;omega) (.slice A2 x.dest.length c2)
     have hboxc9:=blk_put I.out.now.1 2 (.slice A2 x.dest.length c2) rfl
     have hboxr9:=(Below.heap_setCell w3 ⟨w1.heap.size,2,none⟩ (.slice A2 x.dest.length c2) r (by simp only;have:=HO5.out.size;omega)).trans I.out.now.2.2.2.2.2.1
     have hfs9:=FsAt.keep I.out.now.2.2.1 (w':=(w3.setCell ⟨w1.heap.size,2,none⟩ (.slice A2 x.dest.length c2))) (fun k hk=>Below.heap_setCell _ _ _ _ (by simp only;rcases hk with h | h;(· omega);(· have:=hlt9 k h;omega))) (by simp [World.setCell])
     have hcp9:=Kd.R_far (p:=⟨w1.heap.size,2,none⟩) I.out.now.2.1 (fun k hk=>hk.2) (.slice A2 x.dest.length c2)
     have hcq9:=Kd.R_far (p:=⟨w1.heap.size,2,none⟩) HQ2.out (fun k hk=>by simp only;omega) (.slice A2 x.dest.length c2)
     have HB9:=Lib.hid hb9
     have HK9:=Lib.hid (And.intro hboxc9 (And.intro hboxr9 (And.intro hfs9 (And.intro hcp9 hcq9))))
     clear hb9 hboxc9 hboxr9 hfs9 hcp9 hcq9 I
     go_wp2_with fail
     have I:=Lib.hid (Hd.base HB9.out (by first | exact Nat.le_refl _ | exact Below.size HB9.out))
     replace I:=Lib.hid (Hd.and I.out (Hd.box HK9.out.2.1))
     replace I:=Lib.hid (Hd.and I.out ((show Hd (fun W=>FsAt W g (fun k=>O k∨w.heap.size≤k∧k<W5.heap.size) tb {f with tree:=tr}) (w3.setCell ⟨w1.heap.size,2,none⟩ (.slice A2 x.dest.length c2)) from fun W hW=>HK9.out.2.2.1.below hW)))
     replace I:=Lib.hid (Hd.and I.out (Hd.rows HK9.out.2.2.2.1))
     replace I:=Lib.hid (Hd.and I.out (Hd.rows HK9.out.2.2.2.2))
     replace I:=Lib.hid (Hd.and I.out (Hd.box (show _=some (Obj.cells #[.int .u8 k,.slice A1 x.p.length c1,.slice A2 x.dest.length c2,.int .i64 wy] 79 (0,0)) from HK9.out.1)))
     generalize (w3.setCell ⟨w1.heap.size,2,none⟩ (.slice A2 x.dest.length c2))=W9 at *
     have hqd:=bdrew (Below.refl W9.heap.size W9)
     replace I:=Lib.hid (Hd.mv I.out hqd)
     have HFS9:=Lib.hid I.out.now.2.2.2.1
     obtain ⟨A5,c5,v5,m5,lo5,hi5,hbox5,hle5,hiv5,hsep5,htr5,htb5,hfl5,hOm5,hOlt5⟩:=I.out.now.2.2.2.1
     unfold fsCells at hbox5
     obtain ⟨AT5,ct5,rfl⟩:=Kd.R_slice htr5
     simp only at hbox5 hle5 htr5 hfl5 hiv5
     have HG5:=Lib.hid hbox5
     have HIV5:=Lib.hid hiv5
     have HTR5:=Lib.hid htr5
     have HTB5:=Lib.hid htb5
     have HFL5:=Lib.hid hfl5
     have hgl5:=blk_lt hbox5
     have hml5:=hfl5.lt
     have hmg5:=hfl5.ne hbox5
     have hcl5:=blk_lt I.out.now.1
     have hbw5:=I.out.now.2.2.2.2.2
     have hsw5:=hbw5.size
     have htl5:∀ k,tb=some k→O k:=fun k e=>by
      have h:=((Kd.R_bound HTR0.out).1 k (HTB0.out.trans e)).1
      exact h
     have hlt0:∀ k,O k→k<w.heap.size:=HFS0.out.lts
     have hso5:=HO5.out.size
     clear hbox5 hiv5 htr5 htb5 hfl5
     refine start_ (n:=11) (S:=fun w'=>w'.heap[g]? = some (.cells #[.string tr.name,.int .u8 tr.kind,.string tr.data,.slice A5 tr.files.length c5,.slice AT5 f.trace.length ct5,.map (some m5)] 68 (0,0))∧w'.heap[w1.heap.size]? = some (.cells #[.int .u8 k,.slice A1 x.p.length c1,.slice A2 x.dest.length c2,.int .i64 wy] 79 (0,0))) (ds:=[10]) (bq 11 0) (by kernel_rfl) rfl rfl ⟨HG5.out,I.out.now.1⟩ (fun hHeld => ?_)
     generalize W9.drew=WD at *
     refine pA 0 58 (bq 11 1) ?_
     refine pA 1 59 (bq 11 3) ?_
     refine pA 2 60 (bq 11 7) ?_
     refine pA 3 61 (bq 11 15) ?_
     refine tA 4 62 (bq 11 31) hHeld ?_ (hy:=by
      rintro w' ⟨s0,s1⟩
      have q0:=cell_of (j:=0) s0 rfl
      have q1:=cell_of (j:=1) s0 rfl
      have q2:=cell_of (j:=2) s0 rfl
      have q3:=cell_of (j:=3) s0 rfl
      have q4:=cell_of (j:=4) s0 rfl
      have q5:=cell_of (j:=5) s0 rfl
      go_simp
      with_reducible rfl)
     refine tA 5 63 (bq 11 63) hHeld ?_ (hy:=by
      rintro w' ⟨s0,s1⟩
      have q0:=cell_of (j:=0) s1 rfl
      have q1:=cell_of (j:=1) s1 rfl
      have q2:=cell_of (j:=2) s1 rfl
      have q3:=cell_of (j:=3) s1 rfl
      go_simp
      with_reducible rfl)
     refine eA 6 64 (bq 11 127) (fun K hK => ?_)
     refine vA ?_
     have hba:=below_alloc (Below.refl WD.heap.size WD) (.cells #[.int .u8 k,.slice A1 x.p.length c1,.slice A2 x.dest.length c2,.int .i64 wy] 79)
     refine hK.out _ _ ⟨(hba.block _ hgl5).trans HG5.out,(hba.block _ hcl5).trans I.out.now.1⟩ (fun hHeld => ?_)
     refine nA 64 ?_
     refine eA 7 65 (bq 11 255) (fun K hK => ?_)
     refine Kd.R_append_step CallK (w0:=WD) 0 (by rfl) (.tmp 62) (.tmp 64) 34 79 (.agg #[.int .u8 0,.slice none 0 0,.slice none 0 0,.int .i64 0]) 64 rfl Tryz.underlying34 info_call rfl (by decide) (by omega) (.slice AT5 f.trace.length ct5) f.trace ⟨k,x.p,x.dest,wy⟩ [.int .u8 k,.slice A1 x.p.length c1,.slice A2 x.dest.length c2,.int .i64 wy] (fun j=>O j∨w.heap.size≤j) (fun j=>W5.heap.size≤j) rfl rfl ?aP ?aK ?aF ?aO ?aB ?aS ?aL ?_
     case aP=>exact call_mkM _ 0 _ ⟨k,x.p,x.dest,wy⟩ (Kd.R_lower (Kd.R_mono (Kd.R_bound I.out.now.2.2.1) fun j hj=>hj.2.1) (Nat.zero_le _)) (Kd.R_lower (Kd.R_mono (Kd.R_bound I.out.now.2.1) fun j hj=>by have:=hj.2.1;omega) (Nat.zero_le _))
     case aK=>exact fun j hj=>⟨.inr (by omega),fun e=>by
      have h:=htl5 j (HTB5.out.symm.trans e.symm)
      have:=hlt0 j h
      omega⟩
     case aF=>exact fun j hj=>.inr (by omega)
     case aO=>exact Kd.R_mono HTR5.out fun j hj=>hj.imp id fun h=>h.1
     case aB=>exact Below.refl _ _
     case aS=>exact Nat.zero_le _
     case aL=>omega
     intro v2 w2 ho2 hb2 hg2 hat2
     have HO2:=Lib.hid ho2
     have HB2':=Lib.hid hb2
     have hs2':=hg2.size
     have HOG:=Lib.hid (Only.grown_of hg2)
     have hne2:∀ j,(O j→tb≠some j)→j<WD.heap.size→w2.heap[j]? = WD.heap[j]? := fun j hj hl=>hg2.block j hl (fun e=>by
      have e2:=HTB5.out.symm.trans e.symm
      exact hj (htl5 j e2) e2)
     have HG6:=Lib.hid ((hne2 g (fun h=>absurd h hgO) hgl5).trans HG5.out)
     have HC6:=Lib.hid ((hne2 w1.heap.size (fun h=>by have:=hlt0 _ h;omega) hcl5).trans I.out.now.1)
     have HIV6:=Lib.hid (HIV5.out.mv fun j h1 h2=>hne2 j (fun _=>(hsep5 j h1 h2).2.2) (HFS9.out.lts j (hsep5 j h1 h2).1))
     have HFL6:=Lib.hid (HFL5.out.mv (hne2 m5 (fun _ => ?aM) hml5))
     case aM =>
      intro e
      obtain ⟨cells,hc⟩:=Kd.R_typed HTR5.out m5 (HTB5.out.trans e)
      obtain ⟨es,clock,hm,_⟩:=HFL5.out
      rw [hm] at hc
      cases hc
     have HX6:Hid (∀ j,j<WD.heap.size→tb≠some j→w2.heap[j]? = WD.heap[j]?):=Lib.hid fun j hl h=>hne2 j (fun _=>h) hl
     have HV2:Hid (v2.ownBlock=tb∨∃ b,v2.ownBlock=some b∧WD.heap.size≤b):=Lib.hid (hat2.imp (fun h=>h.trans HTB5.out) id)
     obtain ⟨AT6,ct6,rfl⟩:=Kd.R_slice ho2
     clear ho2 hb2 hg2 hat2 hne2
     have hlen6:(f.trace++[(⟨k,x.p,x.dest,wy⟩:Call)]).length=f.trace.length+1:=by simp
     rw [hlen6] at HO2 HV2
     refine hK.out _ _ ⟨HG6.out,HC6.out⟩ (fun hHeld => ?_)
     refine nA 65 ?_
     refine pA 8 66 (bq 11 511) ?_
     refine pA 9 67 (bq 11 1023) ?_
     refine last_ (i:=10) (N:=none) (bq 11 2047) rfl rfl (by kernel_rfl) (by decide) (fun K hK => ?_)
     have zg4:=cell_of (j:=4) HG6.out rfl
     have ug4:=unfr HG6.out 4
     refine sA ?_
     refine hK.out _ _ ?_
     refine done_ (by kernel_rfl) ?_
     go_wp2_with fail
     go_ret
     have hcv:callV f k x=(⟨tr,f.trace++[⟨k,x.p,x.dest,wy⟩],f.faults⟩,tl,wy):=by
      unfold callV
      rw [if_pos ⟨HB1.out,HB2.out⟩]
      simp only [HRS.out,HDL.out]
     rw [hcv]
     have hz9:(w2.setCell ⟨g,4,none⟩ (.slice AT6 (f.trace.length+1) ct6)).heap.size=w2.heap.size:=by simp [World.setCell]
     have htb9:∀ j,tb=some j→j<w.heap.size:=fun j e=>hlt0 j (htl5 j e)
     refine ⟨rfl,⟨_,HV2.out.imp id (fun ⟨b,e,h⟩=>⟨b,e,by omega⟩),?_⟩,?_,?_⟩
     ·refine ⟨A5,c5,.slice AT6 (f.trace.length+1) ct6,m5,lo5,hi5,?_,hle5,HIV6.out.mv fun k h1 h2=>Below.heap_setCell _ _ _ _ (hsep5 k h1 h2).2.1,fun k h1 h2=>⟨(hsep5 k h1 h2).1.imp id fun h=>⟨h.1,by omega⟩,(hsep5 k h1 h2).2.1,fun e => ?_⟩,?_,rfl,HFL6.out.mv (Below.heap_setCell _ _ _ _ hmg5),hOm5.imp id fun h=>⟨h.1,by omega⟩,fun k h=>h.elim (fun h=>by have:=hlt0 k h;omega) fun h=>h.2⟩
      ·have h:=blk_put (cs:=#[.string tr.name,.int .u8 tr.kind,.string tr.data,.slice A5 tr.files.length c5,.slice AT5 f.trace.length ct5,.map (some m5)]) HG6.out 4 (.slice AT6 (f.trace.length+1) ct6) rfl
       exact h
      ·rcases HV2.out with h | ⟨b,h,hb⟩
       ·exact (hsep5 k h1 h2).2.2 (h.symm.trans e)
       ·have h9:=HFS9.out.lts k (hsep5 k h1 h2).1
        rw [h] at e
        injection e with e
        omega
      ·exact Kd.R_mono (Kd.R_bound (Kd.R_step (Kd.R_types HO2.out HG6.out (by decide)) fun k hk _=>Below.heap_setCell _ _ _ _ hk.2)) fun k hk=>hk.1.1.imp id fun h=>⟨h,hk.2.2.1⟩
     ·exact (Below.heap_setCell _ _ _ _ hrg).trans ((HX6.out r (by omega) (fun e=>hrO (htl5 r e))).trans I.out.now.2.2.2.2.1)
     ·exact ((HO5.out.trans (Only.of_belowV hbw5 fun _=>False) (K:=fun k=>k=g∨k=r∨tb=some k) (fun _ _ h=>h.elim .inl fun h=>.inr (.inl h)) (fun _ _ h=>h.elim)).trans HOG.out (fun _ _ h=>h) (fun _ _ h=>.inr (.inr (HTB5.out.symm.trans h)))).trans (Only.setCell _ _ _) (fun _ _ h=>h) (fun _ _ h=>.inl h)
   clear hK1
   cases bf
   ·skip
    go_wp2_with fail
    refine (kinds_calls W3).mono ?_
    rintro e w4 ⟨rfl,HKD,hq4⟩
    replace I:=Lib.hid (Hd.mv I.out hq4)
    have hbw4:=I.out.now.2.2.2.2.2
    have HFS4:=Lib.hid (HFS0.out.below hbw4)
    have hs4:=hbw4.size
    have HRQ4:=Lib.hid I.out.now.2.2.2.1
    have HKL:=Lib.hid (lookup_kinds w4 _ k HKD h1 h5)
    rw [kindF_N] at HKL
    clear HKD
    have HOP:=Lib.hid (show opR k f.tree x=(tr,tl,wy) from (if_neg (of_decide_eq_false HBF.out)).symm.trans HRS.out)
    have hk5:k=1∨k=2∨k=3∨k=4∨k=5:=by omega
    rcases hk5 with hk | hk | hk | hk | hk
    ·skip
     have HKN:=Lib.hid (show kindN k=96 by rw [hk];rfl)
     clear hk
     have hlk:=HKL.out
     rw [HKN.out] at hlk
     go_wp2_with fail
     have hop:=op_fs k h1 h5 w4 g r O tb f x Ap cp Ad cd HFS4.out HRQ4.out hrg hrO hbt I.out.now.2.2.1 hcp hps I.out.now.2.1 hcd hpt hdb
     rw [HKN.out,HOP.out] at hop
     refine hop.mono ?_
     rintro e w5 ⟨rfl,hfs5,hr5,ho5⟩
     clear hlk hop
     have HA5:=Lib.hid (show FsAt w5 g (fun k=>O k∨w.heap.size≤k∧k<w5.heap.size) tb {f with tree:=tr}∧w5.heap[r]? = some (.cells (reqCells x Ap cp Ad cd tl) 97 (0,0))∧Only (fun k=>k=g∨k=r) w w5 from ⟨hfs5.mono (O':=fun k=>O k∨w.heap.size≤k∧k<w5.heap.size) (fun k h=>h.imp id fun h=>⟨Nat.le_trans hs4 h.1,h.2⟩) (fun k h=>h.elim (fun h=>Nat.lt_of_lt_of_le (HFS0.out.lts k h) (Nat.le_trans hs4 ho5.size)) fun h=>h.2),hr5,(Only.of_belowV hbw4 (fun _=>False)).trans ho5 (K:=fun k=>k=g∨k=r) (fun _ _ h=>h.elim) (fun _ _ h=>h)⟩)
     clear hfs5 hr5 ho5
     go_wp2_with fail
     exact HT.out _ w5 ⟨⟨_,_,_,_,_,_,_,_,_,_,_,_,_,_,_,_,_,_,_,_,_,_,_,_,_,_,_,_,_,_,_,_,_,_,_,_,_,_,_,_,_,_,_,_,_,_,_,_,_,_,_,_,_,_,_,_,_,_,_,_,_,_,_,_,_,rfl⟩,HA5.out⟩
    ·skip
     have HKN:=Lib.hid (show kindN k=97 by rw [hk];rfl)
     clear hk
     have hlk:=HKL.out
     rw [HKN.out] at hlk
     go_wp2_with fail
     have hop:=op_fs k h1 h5 w4 g r O tb f x Ap cp Ad cd HFS4.out HRQ4.out hrg hrO hbt I.out.now.2.2.1 hcp hps I.out.now.2.1 hcd hpt hdb
     rw [HKN.out,HOP.out] at hop
     refine hop.mono ?_
     rintro e w5 ⟨rfl,hfs5,hr5,ho5⟩
     clear hlk hop
     have HA5:=Lib.hid (show FsAt w5 g (fun k=>O k∨w.heap.size≤k∧k<w5.heap.size) tb {f with tree:=tr}∧w5.heap[r]? = some (.cells (reqCells x Ap cp Ad cd tl) 97 (0,0))∧Only (fun k=>k=g∨k=r) w w5 from ⟨hfs5.mono (O':=fun k=>O k∨w.heap.size≤k∧k<w5.heap.size) (fun k h=>h.imp id fun h=>⟨Nat.le_trans hs4 h.1,h.2⟩) (fun k h=>h.elim (fun h=>Nat.lt_of_lt_of_le (HFS0.out.lts k h) (Nat.le_trans hs4 ho5.size)) fun h=>h.2),hr5,(Only.of_belowV hbw4 (fun _=>False)).trans ho5 (K:=fun k=>k=g∨k=r) (fun _ _ h=>h.elim) (fun _ _ h=>h)⟩)
     clear hfs5 hr5 ho5
     go_wp2_with fail
     exact HT.out _ w5 ⟨⟨_,_,_,_,_,_,_,_,_,_,_,_,_,_,_,_,_,_,_,_,_,_,_,_,_,_,_,_,_,_,_,_,_,_,_,_,_,_,_,_,_,_,_,_,_,_,_,_,_,_,_,_,_,_,_,_,_,_,_,_,_,_,_,_,_,rfl⟩,HA5.out⟩
    ·skip
     have HKN:=Lib.hid (show kindN k=98 by rw [hk];rfl)
     clear hk
     have hlk:=HKL.out
     rw [HKN.out] at hlk
     go_wp2_with fail
     have hop:=op_fs k h1 h5 w4 g r O tb f x Ap cp Ad cd HFS4.out HRQ4.out hrg hrO hbt I.out.now.2.2.1 hcp hps I.out.now.2.1 hcd hpt hdb
     rw [HKN.out,HOP.out] at hop
     refine hop.mono ?_
     rintro e w5 ⟨rfl,hfs5,hr5,ho5⟩
     clear hlk hop
     have HA5:=Lib.hid (show FsAt w5 g (fun k=>O k∨w.heap.size≤k∧k<w5.heap.size) tb {f with tree:=tr}∧w5.heap[r]? = some (.cells (reqCells x Ap cp Ad cd tl) 97 (0,0))∧Only (fun k=>k=g∨k=r) w w5 from ⟨hfs5.mono (O':=fun k=>O k∨w.heap.size≤k∧k<w5.heap.size) (fun k h=>h.imp id fun h=>⟨Nat.le_trans hs4 h.1,h.2⟩) (fun k h=>h.elim (fun h=>Nat.lt_of_lt_of_le (HFS0.out.lts k h) (Nat.le_trans hs4 ho5.size)) fun h=>h.2),hr5,(Only.of_belowV hbw4 (fun _=>False)).trans ho5 (K:=fun k=>k=g∨k=r) (fun _ _ h=>h.elim) (fun _ _ h=>h)⟩)
     clear hfs5 hr5 ho5
     go_wp2_with fail
     exact HT.out _ w5 ⟨⟨_,_,_,_,_,_,_,_,_,_,_,_,_,_,_,_,_,_,_,_,_,_,_,_,_,_,_,_,_,_,_,_,_,_,_,_,_,_,_,_,_,_,_,_,_,_,_,_,_,_,_,_,_,_,_,_,_,_,_,_,_,_,_,_,_,rfl⟩,HA5.out⟩
    ·skip
     have HKN:=Lib.hid (show kindN k=99 by rw [hk];rfl)
     clear hk
     have hlk:=HKL.out
     rw [HKN.out] at hlk
     go_wp2_with fail
     have hop:=op_fs k h1 h5 w4 g r O tb f x Ap cp Ad cd HFS4.out HRQ4.out hrg hrO hbt I.out.now.2.2.1 hcp hps I.out.now.2.1 hcd hpt hdb
     rw [HKN.out,HOP.out] at hop
     refine hop.mono ?_
     rintro e w5 ⟨rfl,hfs5,hr5,ho5⟩
     clear hlk hop
     have HA5:=Lib.hid (show FsAt w5 g (fun k=>O k∨w.heap.size≤k∧k<w5.heap.size) tb {f with tree:=tr}∧w5.heap[r]? = some (.cells (reqCells x Ap cp Ad cd tl) 97 (0,0))∧Only (fun k=>k=g∨k=r) w w5 from ⟨hfs5.mono (O':=fun k=>O k∨w.heap.size≤k∧k<w5.heap.size) (fun k h=>h.imp id fun h=>⟨Nat.le_trans hs4 h.1,h.2⟩) (fun k h=>h.elim (fun h=>Nat.lt_of_lt_of_le (HFS0.out.lts k h) (Nat.le_trans hs4 ho5.size)) fun h=>h.2),hr5,(Only.of_belowV hbw4 (fun _=>False)).trans ho5 (K:=fun k=>k=g∨k=r) (fun _ _ h=>h.elim) (fun _ _ h=>h)⟩)
     clear hfs5 hr5 ho5
     go_wp2_with fail
     exact HT.out _ w5 ⟨⟨_,_,_,_,_,_,_,_,_,_,_,_,_,_,_,_,_,_,_,_,_,_,_,_,_,_,_,_,_,_,_,_,_,_,_,_,_,_,_,_,_,_,_,_,_,_,_,_,_,_,_,_,_,_,_,_,_,_,_,_,_,_,_,_,_,rfl⟩,HA5.out⟩
    ·skip
     have HKN:=Lib.hid (show kindN k=100 by rw [hk];rfl)
     clear hk
     have hlk:=HKL.out
     rw [HKN.out] at hlk
     go_wp2_with fail
     have hop:=op_fs k h1 h5 w4 g r O tb f x Ap cp Ad cd HFS4.out HRQ4.out hrg hrO hbt I.out.now.2.2.1 hcp hps I.out.now.2.1 hcd hpt hdb
     rw [HKN.out,HOP.out] at hop
     refine hop.mono ?_
     rintro e w5 ⟨rfl,hfs5,hr5,ho5⟩
     clear hlk hop
     have HA5:=Lib.hid (show FsAt w5 g (fun k=>O k∨w.heap.size≤k∧k<w5.heap.size) tb {f with tree:=tr}∧w5.heap[r]? = some (.cells (reqCells x Ap cp Ad cd tl) 97 (0,0))∧Only (fun k=>k=g∨k=r) w w5 from ⟨hfs5.mono (O':=fun k=>O k∨w.heap.size≤k∧k<w5.heap.size) (fun k h=>h.imp id fun h=>⟨Nat.le_trans hs4 h.1,h.2⟩) (fun k h=>h.elim (fun h=>Nat.lt_of_lt_of_le (HFS0.out.lts k h) (Nat.le_trans hs4 ho5.size)) fun h=>h.2),hr5,(Only.of_belowV hbw4 (fun _=>False)).trans ho5 (K:=fun k=>k=g∨k=r) (fun _ _ h=>h.elim) (fun _ _ h=>h)⟩)
     clear hfs5 hr5 ho5
     go_wp2_with fail
     exact HT.out _ w5 ⟨⟨_,_,_,_,_,_,_,_,_,_,_,_,_,_,_,_,_,_,_,_,_,_,_,_,_,_,_,_,_,_,_,_,_,_,_,_,_,_,_,_,_,_,_,_,_,_,_,_,_,_,_,_,_,_,_,_,_,_,_,_,_,_,_,_,_,rfl⟩,HA5.out⟩
   ·skip
    have HRS2:=(if_pos (of_decide_eq_true HBF.out)).symm.trans HRS.out
    obtain ⟨rfl,rfl,rfl⟩:f.tree=tr∧told0 x.data=tl∧(42:Int)=wy:=by simpa using HRS2
    have HA5:=Lib.hid (show FsAt W3 g (fun k=>O k∨w.heap.size≤k∧k<W3.heap.size) tb {f with tree:=f.tree}∧W3.heap[r]? = some (.cells (reqCells x Ap cp Ad cd (told0 x.data)) 97 (0,0))∧Only (fun k=>k=g∨k=r) w W3 from ⟨HFS3.out.mono (O':=fun k=>O k∨w.heap.size≤k∧k<W3.heap.size) (fun k h=>.inl h) (fun k h=>h.elim (fun h=>HFS3.out.lts k h) fun h=>h.2),HRQ3.out,Only.of_belowV hbw3 (fun k=>k=g∨k=r)⟩)
    clear HRS2
    go_wp2_with fail
    exact HT.out _ W3 ⟨⟨_,_,_,_,_,_,_,_,_,_,_,_,_,_,_,_,_,_,_,_,_,_,_,_,_,_,_,_,_,_,_,_,_,_,_,_,_,_,_,_,_,_,_,_,_,_,_,_,_,_,_,_,_,_,_,_,_,_,_,_,_,_,_,_,_,rfl⟩,HA5.out⟩
end Go.Proofs.YthlcjjhfkldmhaaGreatDoor.G
end
section
namespace Go.Proofs.YthlcjjhfkldmhaaGreatDoor.G
open Go.RowKit Go.Lib Go.Proofs.YthlcjjhfkldmhaaGreatDoorW.PrintWords Go.Proofs.YthlcjjhfkldmhaaGreatDoorW.PrintLast
set_option linter.unusedVariables false
set_option linter.unusedSimpArgs false
def FsPost (w:World) (g:Nat) (O:Nat→Prop) (tb:Option Nat) (f':FsV) (w':World):Prop :=
 (∃ tb',(tb'=tb∨∃ j,tb'=some j∧w.heap.size≤j)∧FsAt w' g (fun k=>O k∨w.heap.size≤k∧k<w'.heap.size) tb' f')∧Only (fun k=>k=g∨tb=some k) w w'
abbrev PathAt (w:World) (g:Nat) (tb:Option Nat) (A:Option Addr) (p:List ByteArray):Prop:=Kd.F Kd.string w (fun k=>k≠g∧tb≠some k) A p.length p
theorem fsPost_lift {w W w':World} {g:Nat} {O:Nat→Prop} {tb:Option Nat} {f f':FsV} (hfs:FsAt w g O tb f) (hb:Below w.heap.size w W) {F:Nat→Prop} (hF:∀ k,k<w.heap.size→F k→k=g∨tb=some k)
  {tb':Option Nat} (ht:tb'=tb∨∃ j,tb'=some j∧W.heap.size≤j) (h:FsAt w' g (fun k=>O k∨W.heap.size≤k∧k<w'.heap.size) tb' f') (ho:Only F W w'):FsPost w g O tb f' w':=by
 have hs:=hb.size
 have hs':=ho.size
 refine ⟨⟨tb',ht.imp id fun ⟨j,e,h⟩=>⟨j,e,Nat.le_trans hs h⟩,h.mono (fun k hk=>hk.imp id fun hk=>⟨Nat.le_trans hs hk.1,hk.2⟩) fun k hk=>hk.elim (fun hk=>Nat.lt_of_lt_of_le (hfs.lts k hk) (Nat.le_trans hs hs')) fun hk=>hk.2⟩,?_⟩
 exact (Only.of_belowV hb (fun _=>False)).trans ho (fun _ _ h=>h.elim) hF
theorem pathAt_req {w:World} {g r:Nat} {tb:Option Nat} {A:Option Addr} {p:List ByteArray} (h:PathAt w g tb A p) {W:World} (hb:Below w.heap.size w W) (hr:w.heap.size≤r):Kd.F Kd.string W (fun k=>k≠g∧k≠r∧tb≠some k) A p.length p :=
 Kd.F_below (Kd.F_mono (Kd.F_bound h) fun k hk=>⟨hk.1.1,by have:=hk.2;omega,hk.1.2⟩) hb
set_option maxHeartbeats 4000000 in
set_option maxRecDepth 100000 in
theorem lstat_api (w:World) (g:Nat) (O:Nat→Prop) (tb:Option Nat) (f:FsV) (hfs:FsAt w g O tb f) (hgO:¬ O g) (hbt:f.tree.bulk≤100000000) (htl:f.trace.length≤2000000) (Ap:Option Addr) (cp:Nat) (p:List ByteArray) (HP:PathAt w g tb Ap p) (hcp:p.length≤cp) (hpB:P.sumP p≤1099511627776) :
  Calls Tryz.prog 23 #[.pointer (some ⟨g,0,none⟩),.slice Ap p.length cp] w fun e w'=>e=.returned (.tuple #[.agg #[.int .u8 (callV f 1 ⟨p,[],⟨#[]⟩⟩).2.1.kind,.int .i64 (callV f 1 ⟨p,[],⟨#[]⟩⟩).2.1.size],.int .i64 (callV f 1 ⟨p,[],⟨#[]⟩⟩).2.2])∧FsPost w g O tb (callV f 1 ⟨p,[],⟨#[]⟩⟩).1 w':=by
 have h2:=two_boxes w #[.int .u8 0,.int .i64 0] #[.slice Ap p.length cp,.slice none 0 0,.string ⟨#[]⟩,.int .u8 0,.int .i64 0] 44 97
 have hb0:=((Below.refl w.heap.size w).alloc (Nat.le_refl _) (.cells #[.int .u8 0,.int .i64 0] 44)).alloc (by simp) (.cells #[.slice Ap p.length cp,.slice none 0 0,.string ⟨#[]⟩,.int .u8 0,.int .i64 0] 97)
 have hgl:=hfs.lt
 have hlts:=hfs.lts
 have HFS:=Lib.hid hfs
 have HF0:=Lib.hid (hfs.below hb0)
 have HR0:=Lib.hid h2.2
 have HP0:=Lib.hid (pathAt_req (r:=(w.heap.size+1)) HP hb0 (by omega))
 have hs0:=hb0.size
 have HB0:=Lib.hid hb0
 have HS0:=Lib.hid h2.1
 clear h2
 obtain ⟨⟨f',tl,wy⟩,hres⟩:∃ r,callV f 1 ⟨p,[],⟨#[]⟩⟩=r:=⟨_,rfl⟩
 have HRES:=Lib.hid hres
 rw [hres]
 clear hres hfs HP hb0
 go_enter Tryz.func23,Tryz.ntmps23
 go_wp2_with fail
 generalize ((w.alloc (.cells #[.int .u8 0,.int .i64 0] 44)).alloc (.cells #[.slice Ap p.length cp,.slice none 0 0,.string ⟨#[]⟩,.int .u8 0,.int .i64 0] 97))=W0 at *
 have hc:=call_fs 1 (by omega) (by omega) W0 g (w.heap.size+1) O tb f ⟨p,[],⟨#[]⟩⟩ Ap cp none 0 HF0.out HR0.out (by omega) (fun h=>by have:=hlts _ h;omega) hgO hbt HP0.out hcp hpB (Kd.F_nil _ _ _) (Nat.le_refl _) (by show P.sumP []≤_;have:P.sumP []=0:=rfl;omega) (by show (0:Nat)≤_;omega) htl
 rw [HRES.out] at hc
 refine (show Calls Tryz.prog 46 #[.pointer (some ⟨g,0,none⟩),.int .u8 1,.pointer (some ⟨(w.heap.size+1),0,none⟩)] W0 _ from hc).mono ?_
 clear hc
 rintro e w1 ⟨rfl,⟨tb',htb,hfs1⟩,hr1,ho1⟩
 unfold reqCells at hr1
 have HF1:=Lib.hid hfs1
 have HR1:=Lib.hid hr1
 have HO1:=Lib.hid ho1
 have HTB:=Lib.hid htb
 have hs1:=ho1.size
 have hsl:=blk_lt HS0.out
 have hq0:∀ k,O k→k≠w.heap.size:=fun k h=>by have:=hlts k h;omega
 have htb0:tb≠some w.heap.size:=fun e=>by
  obtain ⟨A,c,v,m,lo,hi,_,_,_,_,h5,h6,_⟩:=HFS.out
  have:=Kd.R_lt h5 w.heap.size (h6.trans e)
  omega
 have HS1:=Lib.hid ((ho1.block w.heap.size hsl (fun h=>by rcases h with h | h | h;(· omega);(· omega);(· exact htb0 h))).trans HS0.out)
 clear hfs1 hr1 ho1 htb
 obtain ⟨lr0,lr1,lr2,lr3,lr4⟩:=c5A HR1.out
 obtain ⟨ls0,ls1⟩:=c2A HS1.out
 obtain ⟨lf0,lf1⟩:=u2A HS1.out
 go_wp2_with fail
 have HS2:=Lib.hid (blk_put (blk_put HS1.out 0 (.int .u8 tl.kind) rfl) 1 (.int .i64 tl.size) rfl)
 refine bodyPost_ret (results_ct rfl _ _ w.heap.size 44 #[.int .u8 tl.kind,.int .i64 tl.size] (0,0) _ rfl HS2.out Tryz.underlying44 rfl (by kernel_rfl)) rfl ?_
 have hne:∀ k,k≠w.heap.size→((w1.setCell ⟨w.heap.size,0,none⟩ (.int .u8 tl.kind)).setCell ⟨w.heap.size,1,none⟩ (.int .i64 tl.size)).heap[k]? = w1.heap[k]? := fun k hk=>by rw [Below.heap_setCell _ _ _ _ hk,Below.heap_setCell _ _ _ _ hk]
 have hz:((w1.setCell ⟨w.heap.size,0,none⟩ (.int .u8 tl.kind)).setCell ⟨w.heap.size,1,none⟩ (.int .i64 tl.size)).heap.size=w1.heap.size:=by simp [World.setCell]
 have hF2:=HF1.out
 have hO2:=HO1.out
 refine ⟨rfl,?_⟩
 have HK:FsAt ((w1.setCell ⟨w.heap.size,0,none⟩ (.int .u8 tl.kind)).setCell ⟨w.heap.size,1,none⟩ (.int .i64 tl.size)) g (fun k=>O k∨w.heap.size≤k∧k<((w1.setCell ⟨w.heap.size,0,none⟩ (.int .u8 tl.kind)).setCell ⟨w.heap.size,1,none⟩ (.int .i64 tl.size)).heap.size) tb' f' := ?k1
 case k1 =>
  refine FsAt.mono (O:=fun k=>O k∨W0.heap.size≤k∧k<w1.heap.size) (hF2.keep (fun k hk=>hne k ?_) (by omega)) (fun k hk=>hk.imp id fun h=>⟨by omega,by omega⟩) (fun k hk=>hk.elim (fun h=>by have:=hlts k h;omega) fun h=>h.2)
  rcases hk with h | h | h
  ·omega
  ·exact hq0 k h
  ·omega
 refine ⟨⟨tb',HTB.out.imp id fun ⟨j,e,h⟩=>⟨j,e,by omega⟩,HK⟩,?_⟩
 have h1:Only (fun k=>k=w.heap.size) w1 ((w1.setCell ⟨w.heap.size,0,none⟩ (.int .u8 tl.kind)).setCell ⟨w.heap.size,1,none⟩ (.int .i64 tl.size)):=(Only.setCell w1 ⟨w.heap.size,0,none⟩ (.int .u8 tl.kind)).trans (Only.setCell _ ⟨w.heap.size,1,none⟩ (.int .i64 tl.size)) (fun _ _ h=>h) (fun _ _ h=>h)
 exact ((Only.of_belowV HB0.out (fun _=>False)).trans hO2 (K:=fun k=>k=g∨tb=some k) (fun _ _ h=>h.elim) (fun k hk h=>by rcases h with h | h | h;(· exact .inl h);(· omega);(· exact .inr h))).trans h1 (fun _ _ h=>h) (fun k hk h=>by omega)
set_option maxHeartbeats 4000000 in
set_option maxRecDepth 100000 in
theorem read_api (w:World) (g:Nat) (O:Nat→Prop) (tb:Option Nat) (f:FsV) (hfs:FsAt w g O tb f) (hgO:¬ O g) (hbt:f.tree.bulk≤100000000) (htl:f.trace.length≤2000000) (Ap:Option Addr) (cp:Nat) (p:List ByteArray) (HP:PathAt w g tb Ap p) (hcp:p.length≤cp) (hpB:P.sumP p≤1099511627776) :
  Calls Tryz.prog 24 #[.pointer (some ⟨g,0,none⟩),.slice Ap p.length cp] w fun e w'=>e=.returned (.tuple #[.string (callV f 2 ⟨p,[],⟨#[]⟩⟩).2.1.data,.int .i64 (callV f 2 ⟨p,[],⟨#[]⟩⟩).2.2])∧FsPost w g O tb (callV f 2 ⟨p,[],⟨#[]⟩⟩).1 w':=by
 have hb0:=below_alloc (Below.refl w.heap.size w) (.cells #[.slice Ap p.length cp,.slice none 0 0,.string ⟨#[]⟩,.int .u8 0,.int .i64 0] 97)
 have hgl:=hfs.lt
 have hlts:=hfs.lts
 have HFS:=Lib.hid hfs
 have HF0:=Lib.hid (hfs.below hb0)
 have HR0:=Lib.hid (blk_new w (.cells #[.slice Ap p.length cp,.slice none 0 0,.string ⟨#[]⟩,.int .u8 0,.int .i64 0] 97))
 have HP0:=Lib.hid (pathAt_req (r:=w.heap.size) HP hb0 (by omega))
 have hs0:=hb0.size
 have HB0:=Lib.hid hb0
 obtain ⟨⟨f',tl,wy⟩,hres⟩:∃ r,callV f 2 ⟨p,[],⟨#[]⟩⟩=r:=⟨_,rfl⟩
 have HRES:=Lib.hid hres
 rw [hres]
 clear hres hfs HP hb0
 go_enter Tryz.func24,Tryz.ntmps24
 go_wp2_with fail
 generalize (w.alloc (.cells #[.slice Ap p.length cp,.slice none 0 0,.string ⟨#[]⟩,.int .u8 0,.int .i64 0] 97))=W0 at *
 have hc:=call_fs 2 (by omega) (by omega) W0 g w.heap.size O tb f ⟨p,[],⟨#[]⟩⟩ Ap cp none 0 HF0.out HR0.out (by omega) (fun h=>by have:=hlts _ h;omega) hgO hbt HP0.out hcp hpB (Kd.F_nil _ _ _) (Nat.le_refl _) (by show P.sumP []≤_;have:P.sumP []=0:=rfl;omega) (by show (0:Nat)≤_;omega) htl
 rw [HRES.out] at hc
 refine (show Calls Tryz.prog 46 #[.pointer (some ⟨g,0,none⟩),.int .u8 2,.pointer (some ⟨w.heap.size,0,none⟩)] W0 _ from hc).mono ?_
 clear hc
 rintro e w1 ⟨rfl,⟨tb',htb,hfs1⟩,hr1,ho1⟩
 unfold reqCells at hr1
 have HF1:=Lib.hid hfs1
 have HR1:=Lib.hid hr1
 have HO1:=Lib.hid ho1
 have HTB:=Lib.hid htb
 have hs1:=ho1.size
 clear hfs1 hr1 ho1 htb
 obtain ⟨lr0,lr1,lr2,lr3,lr4⟩:=c5A HR1.out
 go_wp2_with fail
 go_ret2
 exact ⟨rfl,fsPost_lift HFS.out HB0.out (fun k hk h=>by rcases h with h | h | h;(· exact .inl h);(· omega);(· exact .inr h)) HTB.out HF1.out HO1.out⟩
set_option maxHeartbeats 4000000 in
set_option maxRecDepth 100000 in
theorem create_api (w:World) (g:Nat) (O:Nat→Prop) (tb:Option Nat) (f:FsV) (hfs:FsAt w g O tb f) (hgO:¬ O g) (hbt:f.tree.bulk≤100000000) (htl:f.trace.length≤2000000) (Ap:Option Addr) (cp:Nat) (p:List ByteArray) (HP:PathAt w g tb Ap p) (hcp:p.length≤cp) (hpB:P.sumP p≤1099511627776) :
  Calls Tryz.prog 25 #[.pointer (some ⟨g,0,none⟩),.slice Ap p.length cp] w fun e w'=>e=.returned (.int .i64 (callV f 3 ⟨p,[],⟨#[]⟩⟩).2.2)∧FsPost w g O tb (callV f 3 ⟨p,[],⟨#[]⟩⟩).1 w':=by
 have hb0:=below_alloc (Below.refl w.heap.size w) (.cells #[.slice Ap p.length cp,.slice none 0 0,.string ⟨#[]⟩,.int .u8 0,.int .i64 0] 97)
 have hgl:=hfs.lt
 have hlts:=hfs.lts
 have HFS:=Lib.hid hfs
 have HF0:=Lib.hid (hfs.below hb0)
 have HR0:=Lib.hid (blk_new w (.cells #[.slice Ap p.length cp,.slice none 0 0,.string ⟨#[]⟩,.int .u8 0,.int .i64 0] 97))
 have HP0:=Lib.hid (pathAt_req (r:=w.heap.size) HP hb0 (by omega))
 have hs0:=hb0.size
 have HB0:=Lib.hid hb0
 obtain ⟨⟨f',tl,wy⟩,hres⟩:∃ r,callV f 3 ⟨p,[],⟨#[]⟩⟩=r:=⟨_,rfl⟩
 have HRES:=Lib.hid hres
 rw [hres]
 clear hres hfs HP hb0
 go_enter Tryz.func25,Tryz.ntmps25
 go_wp2_with fail
 generalize (w.alloc (.cells #[.slice Ap p.length cp,.slice none 0 0,.string ⟨#[]⟩,.int .u8 0,.int .i64 0] 97))=W0 at *
 have hc:=call_fs 3 (by omega) (by omega) W0 g w.heap.size O tb f ⟨p,[],⟨#[]⟩⟩ Ap cp none 0 HF0.out HR0.out (by omega) (fun h=>by have:=hlts _ h;omega) hgO hbt HP0.out hcp hpB (Kd.F_nil _ _ _) (Nat.le_refl _) (by show P.sumP []≤_;have:P.sumP []=0:=rfl;omega) (by show (0:Nat)≤_;omega) htl
 rw [HRES.out] at hc
 refine (show Calls Tryz.prog 46 #[.pointer (some ⟨g,0,none⟩),.int .u8 3,.pointer (some ⟨w.heap.size,0,none⟩)] W0 _ from hc).mono ?_
 clear hc
 rintro e w1 ⟨rfl,⟨tb',htb,hfs1⟩,hr1,ho1⟩
 unfold reqCells at hr1
 have HF1:=Lib.hid hfs1
 have HR1:=Lib.hid hr1
 have HO1:=Lib.hid ho1
 have HTB:=Lib.hid htb
 have hs1:=ho1.size
 clear hfs1 hr1 ho1 htb
 go_wp2_with fail
 go_ret
 exact ⟨rfl,fsPost_lift HFS.out HB0.out (fun k hk h=>by rcases h with h | h | h;(· exact .inl h);(· omega);(· exact .inr h)) HTB.out HF1.out HO1.out⟩
set_option maxHeartbeats 4000000 in
set_option maxRecDepth 100000 in
theorem append_api (w:World) (g:Nat) (O:Nat→Prop) (tb:Option Nat) (f:FsV) (hfs:FsAt w g O tb f) (hgO:¬ O g) (hbt:f.tree.bulk≤100000000) (htl:f.trace.length≤2000000) (Ap:Option Addr) (cp:Nat) (p:List ByteArray) (HP:PathAt w g tb Ap p) (hcp:p.length≤cp) (hpB:P.sumP p≤1099511627776) (d:ByteArray) (hd:d.size≤100000000) :
  Calls Tryz.prog 26 #[.pointer (some ⟨g,0,none⟩),.slice Ap p.length cp,.string d] w fun e w'=>e=.returned (.int .i64 (callV f 4 ⟨p,[],d⟩).2.2)∧FsPost w g O tb (callV f 4 ⟨p,[],d⟩).1 w':=by
 have hb0:=below_alloc (Below.refl w.heap.size w) (.cells #[.slice Ap p.length cp,.slice none 0 0,.string d,.int .u8 0,.int .i64 0] 97)
 have hgl:=hfs.lt
 have hlts:=hfs.lts
 have HFS:=Lib.hid hfs
 have HF0:=Lib.hid (hfs.below hb0)
 have HR0:=Lib.hid (blk_new w (.cells #[.slice Ap p.length cp,.slice none 0 0,.string d,.int .u8 0,.int .i64 0] 97))
 have HP0:=Lib.hid (pathAt_req (r:=w.heap.size) HP hb0 (by omega))
 have hs0:=hb0.size
 have HB0:=Lib.hid hb0
 obtain ⟨⟨f',tl,wy⟩,hres⟩:∃ r,callV f 4 ⟨p,[],d⟩=r:=⟨_,rfl⟩
 have HRES:=Lib.hid hres
 rw [hres]
 clear hres hfs HP hb0
 go_enter Tryz.func26,Tryz.ntmps26
 go_wp2_with fail
 generalize (w.alloc (.cells #[.slice Ap p.length cp,.slice none 0 0,.string d,.int .u8 0,.int .i64 0] 97))=W0 at *
 have hc:=call_fs 4 (by omega) (by omega) W0 g w.heap.size O tb f ⟨p,[],d⟩ Ap cp none 0 HF0.out HR0.out (by omega) (fun h=>by have:=hlts _ h;omega) hgO hbt HP0.out hcp hpB (Kd.F_nil _ _ _) (Nat.le_refl _) (by show P.sumP []≤_;have:P.sumP []=0:=rfl;omega) hd htl
 rw [HRES.out] at hc
 refine (show Calls Tryz.prog 46 #[.pointer (some ⟨g,0,none⟩),.int .u8 4,.pointer (some ⟨w.heap.size,0,none⟩)] W0 _ from hc).mono ?_
 clear hc
 rintro e w1 ⟨rfl,⟨tb',htb,hfs1⟩,hr1,ho1⟩
 unfold reqCells at hr1
 have HF1:=Lib.hid hfs1
 have HR1:=Lib.hid hr1
 have HO1:=Lib.hid ho1
 have HTB:=Lib.hid htb
 have hs1:=ho1.size
 clear hfs1 hr1 ho1 htb
 go_wp2_with fail
 go_ret
 exact ⟨rfl,fsPost_lift HFS.out HB0.out (fun k hk h=>by rcases h with h | h | h;(· exact .inl h);(· omega);(· exact .inr h)) HTB.out HF1.out HO1.out⟩
set_option maxHeartbeats 4000000 in
set_option maxRecDepth 100000 in
theorem rename_api (w:World) (g:Nat) (O:Nat→Prop) (tb:Option Nat) (f:FsV) (hfs:FsAt w g O tb f) (hgO:¬ O g) (hbt:f.tree.bulk≤100000000) (htl:f.trace.length≤2000000) (Ap:Option Addr) (cp:Nat) (p:List ByteArray) (HP:PathAt w g tb Ap p) (hcp:p.length≤cp) (hpB:P.sumP p≤1099511627776) (Aq:Option Addr) (cq:Nat) (q:List ByteArray) (HQ:PathAt w g tb Aq q) (hcq:q.length≤cq) (hqB:P.sumP q≤1099511627776) :
  Calls Tryz.prog 27 #[.pointer (some ⟨g,0,none⟩),.slice Ap p.length cp,.slice Aq q.length cq] w fun e w'=>e=.returned (.int .i64 (callV f 5 ⟨p,q,⟨#[]⟩⟩).2.2)∧FsPost w g O tb (callV f 5 ⟨p,q,⟨#[]⟩⟩).1 w':=by
 have hb0:=below_alloc (Below.refl w.heap.size w) (.cells #[.slice Ap p.length cp,.slice Aq q.length cq,.string ⟨#[]⟩,.int .u8 0,.int .i64 0] 97)
 have hgl:=hfs.lt
 have hlts:=hfs.lts
 have HFS:=Lib.hid hfs
 have HF0:=Lib.hid (hfs.below hb0)
 have HR0:=Lib.hid (blk_new w (.cells #[.slice Ap p.length cp,.slice Aq q.length cq,.string ⟨#[]⟩,.int .u8 0,.int .i64 0] 97))
 have HP0:=Lib.hid (pathAt_req (r:=w.heap.size) HP hb0 (by omega))
 have hs0:=hb0.size
 have HB0:=Lib.hid hb0
 have HQ0:=Lib.hid (pathAt_req (r:=w.heap.size) HQ hb0 (by omega))
 clear HQ
 obtain ⟨⟨f',tl,wy⟩,hres⟩:∃ r,callV f 5 ⟨p,q,⟨#[]⟩⟩=r:=⟨_,rfl⟩
 have HRES:=Lib.hid hres
 rw [hres]
 clear hres hfs HP hb0
 go_enter Tryz.func27,Tryz.ntmps27
 go_wp2_with fail
 generalize (w.alloc (.cells #[.slice Ap p.length cp,.slice Aq q.length cq,.string ⟨#[]⟩,.int .u8 0,.int .i64 0] 97))=W0 at *
 have hc:=call_fs 5 (by omega) (by omega) W0 g w.heap.size O tb f ⟨p,q,⟨#[]⟩⟩ Ap cp Aq cq HF0.out HR0.out (by omega) (fun h=>by have:=hlts _ h;omega) hgO hbt HP0.out hcp hpB HQ0.out hcq hqB (by show (0:Nat)≤_;omega) htl
 rw [HRES.out] at hc
 refine (show Calls Tryz.prog 46 #[.pointer (some ⟨g,0,none⟩),.int .u8 5,.pointer (some ⟨w.heap.size,0,none⟩)] W0 _ from hc).mono ?_
 clear hc
 rintro e w1 ⟨rfl,⟨tb',htb,hfs1⟩,hr1,ho1⟩
 unfold reqCells at hr1
 have HF1:=Lib.hid hfs1
 have HR1:=Lib.hid hr1
 have HO1:=Lib.hid ho1
 have HTB:=Lib.hid htb
 have hs1:=ho1.size
 clear hfs1 hr1 ho1 htb
 go_wp2_with fail
 go_ret
 exact ⟨rfl,fsPost_lift HFS.out HB0.out (fun k hk h=>by rcases h with h | h | h;(· exact .inl h);(· omega);(· exact .inr h)) HTB.out HF1.out HO1.out⟩
theorem calls_api (w:World) (g:Nat) (O:Nat→Prop) (tb:Option Nat) (f:FsV) (hfs:FsAt w g O tb f) :
  Calls Tryz.prog 13 #[.pointer (some ⟨g,0,none⟩)] w fun e w'=>e=.returned (.int .i64 f.trace.length)∧w'=w:=by
 obtain ⟨A,c,v,m,lo,hi,hbox,hle,hiv,hsep,htr,htb,hfl,hOm,hOlt⟩:=hfs
 unfold fsCells at hbox
 obtain ⟨AT,ct,rfl⟩:=Kd.R_slice htr
 have HB:=Lib.hid hbox
 clear hbox hiv hsep htr htb hfl hOm hOlt
 go_enter Tryz.func13,Tryz.ntmps13
 have l1:=cell_of (j:=4) HB.out rfl
 go_wp2_with fail
 go_ret
 exact ⟨rfl,rfl⟩
end Go.Proofs.YthlcjjhfkldmhaaGreatDoor.G
end
end
section
namespace Go.Proofs.YthlcjjhfkldmhaaGreatDoor.G
open Go.RowKit Go.Lib Go.Proofs.YthlcjjhfkldmhaaGreatDoorW.PrintWords Go.Proofs.YthlcjjhfkldmhaaGreatDoorW.PrintLast
set_option linter.unusedVariables false
set_option linter.unusedSimpArgs false
set_option maxHeartbeats 8000000 in
set_option maxRecDepth 100000 in
theorem new_calls (t:File) (A:Option Addr) (c:Nat) (Al:Option Addr) (cl:Nat) (l:List Int) (w:World) (ht:FileK.C w A t.files.length t.files) (hc:t.files.length≤c) (hbt:t.bulk≤1099511627776) (hl:Kd.C (Kd.int .i64) w Al l.length l) (hcl:l.length≤cl) (hll:l.length≤1099511627776) :
  Calls Tryz.prog 6 #[fileV t A c,.slice Al l.length cl] w fun e w'=>(rightT t=false∧e=.returned (.tuple #[.pointer none,.int .i64 30])∧Below w.heap.size w w')∨(rightT t=true∧∃ g,e=.returned (.tuple #[.pointer (some ⟨g,0,none⟩),.int .i64 0])∧FsAt w' g (fun k=>w.heap.size≤k∧k≠g∧k<w'.heap.size) none ⟨t,[],l⟩∧w.heap.size≤g∧Below w.heap.size w w'):=by
 have hb0:=below_alloc (Below.refl w.heap.size w) (.cells (fc t A c) 25)
 have I:=Lib.hid (Hd.base hb0 (by first | exact Nat.le_refl _ | exact Below.size hb0))
 replace I:=Lib.hid (Hd.and I.out (Hd.box (blk_new w (.cells (fc t A c) 25))))
 replace I:=Lib.hid (Hd.and I.out (Hd.reads (Kd.C_below ht hb0)))
 replace I:=Lib.hid (Hd.and I.out (Hd.reads (Kd.C_below hl hb0)))
 have HCR:=Lib.hid (check_why t)
 have HRT:Hid (rightT t=((checkR t).1 == 0)):=Lib.hid rfl
 have HL:=Lib.hid hl
 have hmm := @run_makeMap Tryz.prog
 clear ht hl
 go_enter Tryz.func6,Tryz.ntmps6
 unfold fileV
 obtain ⟨lt0,lt1,lt2,lt3⟩:=c4A I.out.now.2.2.1
 go_wp2_with fail
 clear lt0 lt1 lt2 lt3
 generalize (w.alloc (.cells (fc t A c) 25))=W0 at *
 refine ((show Calls Tryz.prog 20 #[.agg (fc t A c)] _ _ from check_calls t A c _ (by omega) I.out.now.2.1 hc)).mono ?_
 rintro e w1 ⟨v1,rfl,hR1,hq1⟩
 replace I:=Lib.hid (Hd.mv I.out hq1)
 obtain ⟨A1,c1,rfl,hc1,hC1⟩:=Kd.R_reads hR1
 clear hR1 hC1
 obtain ⟨why,hwhy⟩:∃ k,(checkR t).1=k:=⟨_,rfl⟩
 rw [hwhy] at HCR HRT ⊢
 clear hwhy
 by_cases hk:why=0
 rotate_left
 ·skip
  have k1:(why != 0)=true:=by rw [bne_iff_ne];exact hk
  have HRT1:=Lib.hid (show rightT t=false by rw [HRT.out];exact beq_eq_false_iff_ne.2 hk)
  obtain rfl:why=30:=HCR.out.resolve_left hk
  clear hk
  go_wp2_with fail
  go_ret2
  exact .inl ⟨HRT1.out,rfl,I.out.now.2.2.2⟩
 ·skip
  subst hk
  have HRT1:=Lib.hid (show rightT t=true by rw [HRT.out];rfl)
  obtain ⟨lt0,lt1,lt2,lt3⟩:=c4A I.out.now.2.2.1
  go_wp2_with fail
  clear lt0 lt1 lt2 lt3
  have hlo0:=Below.size I.out.now.2.2.2
  refine ((show Calls Tryz.prog 21 #[.agg (fc t A c)] _ _ from copy_file t.bulk t A c _ (Nat.le_refl _) (by omega) I.out.now.2.1 hc)).mono ?_
  rintro e w2 ⟨v2,rfl,hR2,hq2⟩
  replace I:=Lib.hid (Hd.mv I.out hq2)
  obtain ⟨A2,c2,rfl,hc2,hC2⟩:=Kd.R_reads hR2
  have HIV:=Lib.hid (Iv.of_R hR2)
  clear hC2 hR2
  have hbk:=I.out.now.2.2.2
  have hqk:=hq2.size
  obtain ⟨Wm,hWm⟩:∃ W,w2.alloc (.map #[] 0)=W:=⟨_,rfl⟩
  have hbm:Below w2.heap.size w2 Wm:=by rw [← hWm];exact below_alloc (Below.refl _ _) _
  have hFm:Faulted Wm w2.heap.size []:=by rw [← hWm];exact Faulted.made _
  have hsm:Wm.heap.size=w2.heap.size+1:=by rw [← hWm];simp
  have hsm2:w2.heap.size<Wm.heap.size:=by omega
  have HSM:=Lib.hid hsm
  clear hsm
  have hbf:=below_alloc (Below.refl Wm.heap.size Wm) (.cells (fsCells t A2 c2 (.slice none 0 0) w2.heap.size) 68)
  have HFS:=Lib.hid (blk_new Wm (.cells (fsCells t A2 c2 (.slice none 0 0) w2.heap.size) 68))
  unfold fsCells at hbf HFS
  go_wp2_with fail
  have hF2:=Lib.hid (hFm.mv (hbf.block _ hsm2))
  have hbw2:=bstep (bstep hbk (Below.size hbk) hbm) (Below.size (bstep hbk (Below.size hbk) hbm)) hbf
  have hIV2:=Lib.hid (HIV.out.mv (w':=Wm.alloc (.cells #[.string t.name,.int .u8 t.kind,.string t.data,.slice A2 t.files.length c2,.slice none 0 0,.map (some w2.heap.size)] 68)) fun k _ h2=>(hbf.block k (by omega)).trans (hbm.block k h2))
  have hg2:=blk_lt HFS.out
  have hlo:w.heap.size≤w1.heap.size:=hlo0
  clear hFm hWm hbf hbm HIV
  generalize Wm.alloc (.cells #[.string t.name,.int .u8 t.kind,.string t.data,.slice A2 t.files.length c2,.slice none 0 0,.map (some w2.heap.size)] 68)=W2 at *
  go_loopw [26] (fun i wr=>∃ k:Nat,k≤l.length∧i=.int .i64 k∧Below w.heap.size w wr∧Wm.heap.size<wr.heap.size∧Hid (wr.heap[Wm.heap.size]? = some (.cells #[.string t.name,.int .u8 t.kind,.string t.data,.slice A2 t.files.length c2,.slice none 0 0,.map (some w2.heap.size)] 68 (0,0)))∧Hid (Faulted wr w2.heap.size (l.take k))∧Hid (Iv w1.heap.size w2.heap.size wr (fun W=>FileK.C W A2 t.files.length t.files))) (fun i _=>l.length - (RowKit.intOf i).toNat)
  case atStart=>exact ⟨0,by omega,rfl,hbw2,hg2,HFS,hF2,hIV2⟩
  case round =>
   clear hF2 hbw2 hIV2 hg2 HFS
   obtain ⟨k,hk,rfl,hb,hgl,HFS,HF,HIV⟩:=hrel
   by_cases hlt:k<l.length
   ·obtain ⟨ad,rfl,hx⟩:=Kd.at_int HL.out (k:Int) (by omega) (by omega)
    rw [Int.toNat_natCast] at hx
    have hx2:=(hb.cell (World.block_lt_of_cell? w _ hx)).trans hx
    obtain ⟨z,hz⟩:∃ z,rd l (k:Int)=z:=⟨_,rfl⟩
    rw [hz] at hx2
    have hzl:l[k]=z:=by rw [← hz];simp [rd,hlt]
    have HZL:=Lib.hid (show ∀ n,n∈z :: l.take k↔n∈l.take (k+1) from fun n=>by
     rw [List.take_succ_eq_append_getElem hlt,hzl,List.mem_append,List.mem_cons,List.mem_singleton]
     exact or_comm)
    clear hx hz hzl
    obtain ⟨o,hup,hF⟩:=fault_update HF.out z
    have HF1:=Lib.hid hF
    have hgm:Wm.heap.size≠w2.heap.size:=by omega
    have HFS1:=Lib.hid ((World.putObj_heap_other (o:=o) hgm).trans HFS.out)
    have HIV1:=Lib.hid (HIV.out.mv (w':=wr.putObj w2.heap.size o) fun j _ h2=>World.putObj_heap_other (by omega))
    have f5:=cell_of (j:=5) HFS.out rfl
    have hbp:=bput hb (k:=w2.heap.size) (by have:=hbk.size;omega) o
    have hsp:Wm.heap.size<(wr.putObj w2.heap.size o).heap.size:=by simpa [World.putObj] using hgl
    have g1:(k:Int)<(l.length:Int):=by omega
    clear hF HF HFS HIV
    go_wp2_with fail
    go_roundw
    case rel=>exact ⟨k+1,by omega,by go_num,hbp,hsp,HFS1,Lib.hid (HF1.out.iff HZL.out),HIV1⟩
    case measure=>simp [RowKit.intOf];omega
   ·obtain rfl:k=l.length:=by omega
    go_wp2_with fail
    go_ret2
    refine .inr ⟨HRT1.out,Wm.heap.size,rfl,⟨A2,c2,.slice none 0 0,w2.heap.size,w1.heap.size,w2.heap.size,HFS.out,hc2,HIV.out,fun j h1 h2=>⟨⟨by omega,by omega,by omega⟩,by omega,by simp⟩,Kd.R_nil _ _ _ _ _,rfl,by have:=HF.out;rwa [List.take_length] at this,⟨by have:=hbk.size;omega,by omega,by omega⟩,fun j h=>h.2.2⟩,by have:=hbk.size;omega,hb⟩
end Go.Proofs.YthlcjjhfkldmhaaGreatDoor.G
end
end
