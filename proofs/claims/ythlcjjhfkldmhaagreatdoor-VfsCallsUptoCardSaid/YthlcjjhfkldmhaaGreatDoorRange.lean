import Derived.Test.YthlcjjhfkldmhaaGreatDoorKit
import Derived.RangeFuncNested
import Derived.RangeFuncBound
import Derived.RangeFuncCalls
import Derived.RangeFuncLeaves
import Derived.Shelf.Abstract
import Derived.WalkKit
import Derived.OwnWalkIn
import Derived.TacticsInMore
import Derived.LoopNIn
import Derived.LoopIn
set_option linter.unusedVariables false
set_option linter.unusedSimpArgs false
namespace Go.Proofs.YthlcjjhfkldmhaaGreatDoor.G
open Go.RowKit
set_option linter.unusedVariables false
def OwnT {β:Type} (T:Nat→Prop) (B:Nat) (I:β→World→Prop):Prop :=
 ∀ s X Y row,I s X→X.grownBy Y row→(∀ r,row=some r→T r∨(B≤r∧∃ o:Obj,X.heap[r]? = some o∧o.isCells=false))→I s Y
def StepT {β:Type} (T:Nat→Prop) (J:β→World→Prop):Prop :=
 ∀ s X Y row,J s X→X.grownBy Y row→(∀ r,row=some r→T r)→J s Y
def GivesT {α:Type} (P:Program) (n gf:Nat) (lb:Array Value) (encs:α→Array Value) (T:Nat→Prop) (full:List α) (w:World):Prop :=
 ∀ (l:Nat) (J Jx:List α→World→Prop) (W:World),(∀ k,T k→W.heap[k]? = w.heap[k]?)→StepT T J→StepT T Jx →
  (∀ pre x W1,J pre W1→(pre++[x]) <+: full→YieldAt Fence.wide (n - 1) P l (encs x) W1 fun e W' =>
   (e=.returned (.bool true)∧J (pre++[x]) W'∧(∀ k,T k→W'.heap[k]? = W1.heap[k]?))∨(e=.returned (.bool false)∧Jx (pre++[x]) W')) →
  J [] W →
  CallsIn Fence.wide n P gf (#[.func (.yield l) #[] #[]]++lb) W fun e W'=>(∃ v,e=.returned v)∧(J full W'∨(∃ pre,pre <+: full∧Jx pre W'))
def roundT {α:Type} (T:Nat→Prop) (B:Nat) (I Ix:List α→World→Prop) (xs:List α) (W:World):Exit→Act→World→Prop
 | .normal,_,W'=>KeepsFrom B W W'∧(∀ k,T k→W'.heap[k]? = W.heap[k]?)∧I xs W'
 | .ret,_,W'=>KeepsFrom B W W'∧Ix xs W'
 | _,_,_=>False
theorem wpIn_rangeT {α:Type} {P:Program} {g:Operand} {ps:Array Tmp} {assign body:Code} {Q:Exit→Act→World→Prop} {a:Act} {w:World} {n:Nat}
  {gf:Nat} {lb:Array Value} (hg:a.eval g=.func (.func gf) #[] lb) (eg:∀ args w,(callFunc gf args).run P w=.ok (.enter gf args) w)
  {encs:α→Array Value} {T:Nat→Prop} (hT:∀ k,T k→k<w.heap.size) {full:List α} (hseq:GivesT P (n - 1) gf lb encs T full w) (hps:∀ x,(encs x).size=ps.size)
  (I Ix:List α→World→Prop) (hI:OwnT T w.heap.size I) (hIx:OwnT T w.heap.size Ix) (h0:I [] w) (a₁ : α→Act)
  (hassign:∀ (l:Nat) (x:α) (W:World) (K:Act→World→Prop),K (a₁ x) W →
   assign.wpIn (Fence.wide.inRound l) (n - 1 - 1) P (Exit.then K (fun _ _ _=>False)) {tmps:=(ps.zip (encs x)).foldl (fun t (p,v)=>t.setIfInBounds p v) a.tmps,defers:=[]} W)
  (hbody:∀ (l:Nat) (pre:List α) (x:α) (W:World),w.heap.size≤l→l<W.heap.size→I pre W→(pre++[x]) <+: full→body.wpIn (Fence.wide.inRound l) (n - 1 - 1) P (roundT T w.heap.size I Ix (pre++[x]) W) (a₁ x) W)
  (hdone:∀ (D:Nat) (W:World),w.heap.size≤D→I full W→W.heap[D]? = some (.deferred (some []))→Q .normal {a with defers:={target:=.collected D,args:=#[]} :: a.defers} W)
  (hstop:∀ (D:Nat) (pre:List α) (W:World),w.heap.size≤D→pre <+: full→Ix pre W→W.heap[D]? = some (.deferred (some []))→Code.ret.wpIn Fence.wide n P Q {a with defers:={target:=.collected D,args:=#[]} :: a.defers} W) :
  (Code.rangeFunc g ps assign body).wpIn Fence.wide n P Q a w:=by
 refine wpIn_rangeFunc fun fn hfn => ?_
 obtain ⟨rec,hrec⟩:∃ rec:LoopState→Option Code→Loop,rec=fun st pe=>{state:=st,pending:=pe,fn,tmps:=a.tmps,params:=ps,assign,body,defers:=w.heap.size}:=⟨_,rfl⟩
 obtain ⟨W1,hW1⟩:∃ W1,(w.alloc (.deferred (some []))).alloc (.loop (rec .ready none))=W1:=⟨_,rfl⟩
 have hL1:W1.heap[w.heap.size+1]? = some (.loop (rec .ready none)):=by
  have:=World.alloc_heap_new (w.alloc (.deferred (some []))) (.loop (rec .ready none))
  rw [World.size_alloc,hW1] at this
  exact this
 have hD1:W1.heap[w.heap.size]? = some (.deferred (some [])):=by
  rw [← hW1]
  exact (Below.heap_alloc _ _ _ (by simp)).trans (World.alloc_heap_new w _)
 have g1:w.grownBy W1 none:=by
  rw [← hW1]
  exact ⟨rfl,rfl,rfl,by simp;omega,fun k hk _=>(Below.heap_alloc _ _ _ (by simp;omega)).trans (Below.heap_alloc _ _ _ hk)⟩
 have hI1:I [] W1:=hI _ _ _ none h0 g1 (fun r e=>by cases e)
 have hT1:∀ k,T k→W1.heap[k]? = w.heap[k]? := fun k hk=>g1.block k (hT k hk) (by simp)
 have turn:∀ (J:List α→World→Prop) s W o o',OwnT T w.heap.size J→J s W→W.heap[w.heap.size+1]? = some o→o.isCells=false→J s (W.putObj (w.heap.size+1) o'):=fun J s W o o' hJ hs ho hc =>
  hJ _ _ _ (some (w.heap.size+1)) hs (grownBy_putObj' W _ o') (fun r e=>by cases e;exact .inr ⟨by omega,o,ho,hc⟩)
 have turnT:∀ (W:World) o' k,T k→(W.putObj (w.heap.size+1) o').heap[k]? = W.heap[k]? := fun W o' k hk=>World.putObj_heap_other (by have:=hT k hk;omega)
 refine ⟨w.heap.size+1,[{target:=.collected w.heap.size,args:=#[]}],W1,{target:=.fn (.func gf) lb,args:=#[.func (.yield (w.heap.size+1)) #[] #[]]},W1,gf,
  #[.func (.yield (w.heap.size+1)) #[] #[]]++lb,W1,?_,?_,?_,?_,(fun h=>by cases h),?_⟩
 ·rw [← hW1,hrec]
  exact run_enterLoop_outer _ _ _ _ _
 ·simp only [resolve,hg]
  simp [go_sem]
 ·intro f' hf'
  trivial
 ·simp [invoke,go_sem,eg]
 ·refine (hseq (w.heap.size+1)
   (fun pre W=>I pre W∧W.heap[w.heap.size+1]? = some (.loop (rec .ready none))∧W.heap[w.heap.size]? = some (.deferred (some [])))
   (fun pre W=>Ix pre W∧W.heap[w.heap.size+1]? = some (.loop (rec .done (some .ret)))∧W.heap[w.heap.size]? = some (.deferred (some [])))
   W1 hT1 ?_ ?_ ?_ ⟨hI1,hL1,hD1⟩).mono ?_
  ·intro s X Y row hs hg' hr
   have hh:∀ k o,w.heap.size≤k→X.heap[k]? = some o→Y.heap[k]? = some o:=fun k o hk ho =>
    (hg'.block k (Array.getElem?_eq_some_iff.1 ho).1 (fun e=>by have:=hT k (hr k e.symm);omega)).trans ho
   exact ⟨hI _ _ _ _ hs.1 hg' (fun r e=>.inl (hr r e)),hh _ _ (by omega) hs.2.1,hh _ _ (by omega) hs.2.2⟩
  ·intro s X Y row hs hg' hr
   have hh:∀ k o,w.heap.size≤k→X.heap[k]? = some o→Y.heap[k]? = some o:=fun k o hk ho =>
    (hg'.block k (Array.getElem?_eq_some_iff.1 ho).1 (fun e=>by have:=hT k (hr k e.symm);omega)).trans ho
   exact ⟨hIx _ _ _ _ hs.1 hg' (fun r e=>.inl (hr r e)),hh _ _ (by omega) hs.2.1,hh _ _ (by omega) hs.2.2⟩
  ·rintro pre x W ⟨hi,hl,hd⟩ hpx
   have hlt:w.heap.size+1<W.heap.size:=(Array.getElem?_eq_some_iff.1 hl).1
   have hy:=run_yield (P:=P) (args:=encs x) hl (by rw [hrec];exact hps x)
   rw [hrec] at hy
   refine ⟨fn,_,assign,body,hy,roundIn_of_wpIn hfn (hassign _ x W _ ⟨_,run_beginRound hl (by rw [hrec]),?_⟩)⟩
   have hl2:(W.putObj (w.heap.size+1) (.loop {rec .ready none with state:=.busy})).heap[w.heap.size+1]? = some (.loop {rec .ready none with state:=.busy}):=World.putObj_heap_same hlt
   have hd2:(W.putObj (w.heap.size+1) (.loop {rec .ready none with state:=.busy})).heap[w.heap.size]? = some (.deferred (some [])):=(World.putObj_heap_other (by omega)).trans hd
   refine wpIn_mono (hbody _ pre x _ (by omega) (by simpa using hlt) (turn I _ _ _ _ hI hi hl rfl) hpx) ?_
   rintro e a3 W3 hp
   cases e with
   | normal =>
    obtain ⟨hk3,ht3,hi3⟩:=hp
    have hl3:=hk3.same _ _ (by omega) hl2 rfl
    have hr:=run_endRound (P:=P) none hl3
    have hd3:=hk3.same _ _ (Nat.le_refl _) hd2 rfl
    refine ⟨_,_,hr,.inl ⟨rfl,⟨turn I _ _ _ _ hI hi3 hl3 rfl,?_,(World.putObj_heap_other (by omega)).trans hd3⟩,?_⟩⟩
    ·rw [World.putObj_heap_same (Array.getElem?_eq_some_iff.1 hl3).1,hrec]
     rfl
    ·intro k hk
     rw [turnT _ _ k hk,ht3 k hk,turnT _ _ k hk]
   | ret =>
    obtain ⟨hk3,hi3⟩:=hp
    have hl3:=hk3.same _ _ (by omega) hl2 rfl
    have hr:=run_endRound (P:=P) (some .ret) hl3
    have hd3:=hk3.same _ _ (Nat.le_refl _) hd2 rfl
    refine ⟨_,_,hr,.inr ⟨rfl,turn Ix _ _ _ _ hIx hi3 hl3 rfl,?_,(World.putObj_heap_other (by omega)).trans hd3⟩⟩
    rw [World.putObj_heap_same (Array.getElem?_eq_some_iff.1 hl3).1,hrec]
    rfl
   | exit id=>exact hp.elim
   | goto t=>exact hp.elim
   | panic ch=>exact hp.elim
   | outgrown=>exact hp.elim
  ·rintro e W2 ⟨⟨v,rfl⟩,(⟨hi,hl,hd⟩ | ⟨pre,hSp,hi,hl,hd⟩)⟩
   ·have hr:=run_endLoop (P:=P) hl (by rw [hrec];simp)
    have hp:(rec .ready none).pending=none:=by rw [hrec]
    rw [hp] at hr
    exact ⟨none,_,hr,hdone _ _ (Nat.le_refl _) (turn I _ _ _ _ hI hi hl rfl) ((World.putObj_heap_other (by omega)).trans hd)⟩
   ·have hr:=run_endLoop (P:=P) hl (by rw [hrec];simp)
    have hp:(rec .done (some .ret)).pending=some .ret:=by rw [hrec]
    rw [hp] at hr
    exact ⟨some .ret,_,hr,hstop _ pre _ (Nat.le_refl _) hSp (turn Ix _ _ _ _ hIx hi hl rfl) ((World.putObj_heap_other (by omega)).trans hd)⟩
end Go.Proofs.YthlcjjhfkldmhaaGreatDoor.G
