import Derived.Test.YtdnhjnlhmfajnaaGreatDoorKit
import Derived.RangeFuncNested
import Derived.RangeFuncBound
import Derived.RangeFuncCalls
import Derived.RangeFuncLeaves
import Derived.Shelf.Abstract
import Derived.WalkKit
import Derived.OwnWalkIn
import Derived.TacticsInMore
import Derived.LoopNIn
import Derived.LoopIn
set_option linter.unusedVariables false
set_option linter.unusedSimpArgs false
namespace Go.Proofs.YtdnhjnlhmfajnaaGreatDoor.G
open Go.RowKit
set_option linter.unusedVariables false
structure Only (F:Nat→Prop) (W W':World):Prop where
 os:W'.os=W.os
 tape:W'.tape=W.tape
 output:W'.output=W.output
 size:W.heap.size≤W'.heap.size
 block:∀ k,k<W.heap.size→¬ F k→W'.heap[k]? = W.heap[k]?
theorem Only.refl (F:Nat→Prop) (W:World):Only F W W:=⟨rfl,rfl,rfl,Nat.le_refl _,fun _ _ _=>rfl⟩
theorem Only.trans {F H K:Nat→Prop} {X Y Z:World} (h:Only F X Y) (g:Only H Y Z) (hF:∀ k,k<X.heap.size→F k→K k) (hH:∀ k,k<X.heap.size→H k→K k):Only K X Z :=
 ⟨g.os.trans h.os,g.tape.trans h.tape,g.output.trans h.output,Nat.le_trans h.size g.size,fun k hk hn =>
  (g.block k (Nat.lt_of_lt_of_le hk h.size) (fun e=>hn (hH k hk e))).trans (h.block k hk (fun e=>hn (hF k hk e)))⟩
theorem Only.mono {F H:Nat→Prop} {X Y:World} (h:Only F X Y) (g:∀ k,k<X.heap.size→F k→H k):Only H X Y:=⟨h.os,h.tape,h.output,h.size,fun k hk hn=>h.block k hk (fun e=>hn (g k hk e))⟩
theorem Only.putObj (W:World) (l:Nat) (o:Obj):Only (· = l) W (W.putObj l o):=⟨rfl,rfl,rfl,by simp [World.putObj],fun k hk hn=>World.putObj_heap_other hn⟩
theorem Only.alloc (F:Nat→Prop) (W:World) (o:Obj):Only F W (W.alloc o):=⟨rfl,rfl,rfl,by simp,fun k hk _=>Below.heap_alloc _ _ _ hk⟩
theorem Only.of_below {W W':World} (h:Below W.heap.size W W') (F:Nat→Prop):Only F W W':=⟨h.os,h.tape,h.output,h.size,fun k hk _=>h.block k hk⟩
theorem Only.setCell (W:World) (p:Addr) (v:Value):Only (· = p.block) W (W.setCell p v):=⟨rfl,rfl,rfl,by simp [World.setCell],fun k hk hn=>Below.heap_setCell _ _ _ _ (fun e=>hn e)⟩
theorem Only.below {F:Nat→Prop} {X Y:World} (h:Only F X Y) {B:Nat} (hB:B≤X.heap.size) (hF:∀ k,k<B→¬ F k):Below B X Y:=⟨h.os,h.tape,h.output,h.size,fun k hk=>h.block k (Nat.lt_of_lt_of_le hk hB) (hF k hk)⟩
def OwnF {β:Type} (B:Nat) (J:List β→(Nat→Prop)→(Nat→Prop)→World→Prop):Prop :=
 ∀ s F G X Y,J s F G X→Only (fun k=>B≤k∧¬ F k∧¬ G k) X Y→J s F G Y
def GivesR {β:Type} (P:Program) (gf:Nat) (lb:Array Value) (Enc:β→Array Value→World→Prop) (Hd:Array Value→Nat→Prop) (Prot:Nat→Prop) (full:List β) (w:World):Prop :=
 ∀ (n l:Nat) (J Jx:List β→(Nat→Prop)→(Nat→Prop)→World→Prop) (F G:Nat→Prop) (W:World),Below w.heap.size w W→(∀ k,F k→k<W.heap.size∧¬ Prot k)→(∀ k,G k→k<W.heap.size) →
  OwnF W.heap.size J→OwnF W.heap.size Jx→J [] F G W →
  (∀ pre x args F1 G1 W1,J pre F1 G1 W1→W.heap.size≤W1.heap.size→(pre++[x]) <+: full→Enc x args W1→(∀ k,Hd args k→¬ F1 k)→∀ m,YieldAt Fence.wide m P l args W1 fun e W'=>∃ F' G',Only F1 W1 W'∧(∀ k,F' k→F1 k∨(W1.heap.size≤k∧k<W'.heap.size))∧(∀ k,G' k→G1 k∨Hd args k∨(W1.heap.size≤k∧k<W'.heap.size)) ∧
   ((e=.returned (.bool true)∧J (pre++[x]) F' G' W')∨(e=.returned (.bool false)∧Jx (pre++[x]) F' G' W'))) →
  CallsIn Fence.wide n P gf (#[.func (.yield l) #[] #[]]++lb) W fun e W'=>(∃ v,e=.returned v)∧((∃ F' G',J full F' G' W')∨∃ pre F' G',pre <+: full∧Jx pre F' G' W')
def roundR {β:Type} (I Ix:List β→(Nat→Prop)→(Nat→Prop)→World→Prop) (Hd:Array Value→Nat→Prop) (s:List β) (args:Array Value) (F G:Nat→Prop) (W W2:World):Exit→Act→World→Prop
 | .normal,_,W'=>∃ F' G',Only F W2 W'∧(∀ k,F' k→F k∨(W.heap.size≤k∧k<W'.heap.size))∧(∀ k,G' k→G k∨Hd args k∨(W.heap.size≤k∧k<W'.heap.size))∧I s F' G' W'
 | .ret,_,W'=>∃ F' G',Only F W2 W'∧(∀ k,F' k→F k∨(W.heap.size≤k∧k<W'.heap.size))∧(∀ k,G' k→G k∨Hd args k∨(W.heap.size≤k∧k<W'.heap.size))∧Ix s F' G' W'
 | _,_,_=>False
theorem wpIn_rangeR {β:Type} {P:Program} {g:Operand} {ps:Array Tmp} {assign body:Code} {Q:Exit→Act→World→Prop} {a:Act} {w:World} {n:Nat}
  {gf:Nat} {lb:Array Value} (hg:a.eval g=.func (.func gf) #[] lb) (eg:∀ args w,(callFunc gf args).run P w=.ok (.enter gf args) w)
  {Enc:β→Array Value→World→Prop} {Hd:Array Value→Nat→Prop} {Prot:Nat→Prop} {full:List β} (hseq:GivesR P gf lb Enc Hd Prot full w) (hps:∀ x args W,Enc x args W→args.size=ps.size)
  (hHd:∀ x args W,Enc x args W→∀ k,Hd args k→∃ t cells fr,W.heap[k]? = some (.cells cells t fr)) (hProt:∀ k,Prot k→k<w.heap.size)
  (I Ix:List β→(Nat→Prop)→(Nat→Prop)→World→Prop) (F0 G0:Nat→Prop) (hF0:∀ k,F0 k→k<w.heap.size∧¬ Prot k) (hG0:∀ k,G0 k→k<w.heap.size)
  (hI:OwnF w.heap.size I) (hIx:OwnF w.heap.size Ix) (h0:I [] F0 G0 w)
  (hround:∀ (l m:Nat) (pre:List β) (x:β) (args:Array Value) (F G:Nat→Prop) (W:World),w.heap.size≤l→l<W.heap.size→(∃ r,W.heap[l]? = some (.loop r))→¬ F l→¬ G l→I pre F G W→(pre++[x]) <+: full→Enc x args W→(∀ k,Hd args k→¬ F k) →
   assign.wpIn (Fence.wide.inRound l) m P (Exit.then (fun a1 W1=>Only (fun _=>False) W W1∧∀ o',body.wpIn (Fence.wide.inRound l) m P (roundR I Ix Hd (pre++[x]) args F G W (W1.putObj l (.loop o'))) a1 (W1.putObj l (.loop o'))) (fun _ _ _=>False))
    {tmps:=(ps.zip args).foldl (fun t (p,v)=>t.setIfInBounds p v) a.tmps,defers:=[]} W)
  (hdone:∀ (D:Nat) (F G:Nat→Prop) (W:World),w.heap.size≤D→I full F G W→W.heap[D]? = some (.deferred (some []))→Q .normal {a with defers:={target:=.collected D,args:=#[]} :: a.defers} W)
  (hstop:∀ (D:Nat) (pre:List β) (F G:Nat→Prop) (W:World),w.heap.size≤D→pre <+: full→Ix pre F G W→W.heap[D]? = some (.deferred (some []))→Code.ret.wpIn Fence.wide n P Q {a with defers:={target:=.collected D,args:=#[]} :: a.defers} W) :
  (Code.rangeFunc g ps assign body).wpIn Fence.wide n P Q a w:=by
 refine wpIn_rangeFunc fun fn hfn => ?_
 obtain ⟨rec,hrec⟩:∃ rec:LoopState→Option Code→Loop,rec=fun st pe=>{state:=st,pending:=pe,fn,tmps:=a.tmps,params:=ps,assign,body,defers:=w.heap.size}:=⟨_,rfl⟩
 obtain ⟨W1,hW1⟩:∃ W1,(w.alloc (.deferred (some []))).alloc (.loop (rec .ready none))=W1:=⟨_,rfl⟩
 have hS1:W1.heap.size=w.heap.size+2:=by rw [← hW1];simp
 have hL1:W1.heap[w.heap.size+1]? = some (.loop (rec .ready none)):=by
  have:=World.alloc_heap_new (w.alloc (.deferred (some []))) (.loop (rec .ready none))
  rw [World.size_alloc,hW1] at this
  exact this
 have hD1:W1.heap[w.heap.size]? = some (.deferred (some [])):=by
  rw [← hW1]
  exact (Below.heap_alloc _ _ _ (by simp)).trans (World.alloc_heap_new w _)
 have o1:Only (fun k=>w.heap.size≤k∧¬ F0 k∧¬ G0 k) w W1:=by
  rw [← hW1]
  exact (Only.alloc _ _ _).trans (Only.alloc (fun k=>w.heap.size≤k∧¬ F0 k∧¬ G0 k) _ _) (fun _ _ h=>h) (fun _ _ h=>h)
 have hI1:I [] F0 G0 W1:=hI _ _ _ _ _ h0 o1
 have turn:∀ (J:List β→(Nat→Prop)→(Nat→Prop)→World→Prop) s F G W o',OwnF w.heap.size J→J s F G W→¬ F (w.heap.size+1)→¬ G (w.heap.size+1)→J s F G (W.putObj (w.heap.size+1) o'):=fun J s F G W o' hJ hs hf hg' =>
  hJ _ _ _ _ _ hs ((Only.putObj W _ o').mono fun k _ e=>⟨by omega,by rw [e];exact hf,by rw [e];exact hg'⟩)
 refine ⟨w.heap.size+1,[{target:=.collected w.heap.size,args:=#[]}],W1,{target:=.fn (.func gf) lb,args:=#[.func (.yield (w.heap.size+1)) #[] #[]]},W1,gf,
  #[.func (.yield (w.heap.size+1)) #[] #[]]++lb,W1,?_,?_,?_,?_,(fun h=>by cases h),?_⟩
 ·rw [← hW1,hrec]
  exact run_enterLoop_outer _ _ _ _ _
 ·simp only [resolve,hg]
  simp [go_sem]
 ·intro f' hf'
  trivial
 ·simp [invoke,go_sem,eg]
 ·obtain ⟨JJ,hJJ⟩:∃ JJ:(List β→(Nat→Prop)→(Nat→Prop)→World→Prop)→Loop→List β→(Nat→Prop)→(Nat→Prop)→World→Prop,JJ=fun I r s F' G W=>∃ F,(∀ k,F' k↔F k∨k=w.heap.size∨k=w.heap.size+1)∧I s F G W∧¬ F w.heap.size∧¬ F (w.heap.size+1)∧¬ G w.heap.size∧¬ G (w.heap.size+1) ∧
    W.heap[w.heap.size+1]? = some (.loop r)∧W.heap[w.heap.size]? = some (.deferred (some [])):=⟨_,rfl⟩
  have hown:∀ I r,OwnF w.heap.size I→OwnF W1.heap.size (JJ I r):=by
   intro I r hI s F' G X Y hs ho
   rw [hJJ] at hs ⊢
   obtain ⟨F,hFF,hi,a1,a2,a3,a4,hl,hd⟩:=hs
   refine ⟨F,hFF,hI _ _ _ _ _ hi (ho.mono fun k _ ⟨h1,h2,h3⟩=>⟨by omega,fun h=>h2 ((hFF k).2 (.inl h)),h3⟩),a1,a2,a3,a4,?_,?_⟩
   ·exact (ho.block _ (Array.getElem?_eq_some_iff.1 hl).1 (fun h=>by omega)).trans hl
   ·exact (ho.block _ (Array.getElem?_eq_some_iff.1 hd).1 (fun h=>by omega)).trans hd
  refine (hseq n.pred (w.heap.size+1) (JJ I (rec .ready none)) (JJ Ix (rec .done (some .ret))) (fun k=>F0 k∨k=w.heap.size∨k=w.heap.size+1) G0 W1 ?_ ?_ ?_ (hown _ _ hI) (hown _ _ hIx) ?_ ?_).mono ?_
  ·exact o1.below (Nat.le_refl _) fun k hk h=>by omega
  ·rintro k (h | rfl | rfl)
   ·exact ⟨by have:=(hF0 k h).1;omega,(hF0 k h).2⟩
   ·exact ⟨by omega,fun h=>by have:=hProt _ h;omega⟩
   ·exact ⟨by omega,fun h=>by have:=hProt _ h;omega⟩
  ·exact fun k h=>by have:=hG0 k h;omega
  ·rw [hJJ]
   exact ⟨F0,fun _=>Iff.rfl,hI1,fun h=>by have:=(hF0 _ h).1;omega,fun h=>by have:=(hF0 _ h).1;omega,fun h=>by have:=hG0 _ h;omega,fun h=>by have:=hG0 _ h;omega,hL1,hD1⟩
  ·intro pre x args F' G W hj hsz hpx henc hhd m
   rw [hJJ] at hj
   obtain ⟨F,hFF,hi,a1,a2,a3,a4,hl,hd⟩:=hj
   have hlt:w.heap.size+1<W.heap.size:=(Array.getElem?_eq_some_iff.1 hl).1
   have hy:=run_yield (P:=P) (args:=args) hl (by rw [hrec];exact hps x args W henc)
   rw [hrec] at hy
   have hhd':∀ k,Hd args k→¬ F k:=fun k h e=>hhd k h ((hFF k).2 (.inl e))
   refine ⟨fn,_,assign,body,hy,roundIn_of_wpIn hfn (wpIn_mono (hround (w.heap.size+1) m pre x args F G W (by omega) hlt ⟨_,hl⟩ a2 a4 hi hpx henc hhd') ?_)⟩
   intro e2 a2' W2 hh
   cases e2 with
   | normal =>
    obtain ⟨ho2,hb2⟩:=hh
    have hl2':W2.heap[w.heap.size+1]? = some (.loop (rec .ready none)):=(ho2.block _ hlt (fun h=>h)).trans hl
    have hd2':W2.heap[w.heap.size]? = some (.deferred (some [])):=(ho2.block _ (by omega) (fun h=>h)).trans hd
    have hs2:=ho2.size
    refine ⟨_,run_beginRound hl2' (by rw [hrec]),?_⟩
    have hl2:(W2.putObj (w.heap.size+1) (.loop {rec .ready none with state:=.busy})).heap[w.heap.size+1]? = some (.loop {rec .ready none with state:=.busy}):=World.putObj_heap_same (by omega)
    have hd2:(W2.putObj (w.heap.size+1) (.loop {rec .ready none with state:=.busy})).heap[w.heap.size]? = some (.deferred (some [])):=(World.putObj_heap_other (by omega)).trans hd2'
    have hz2:(W2.putObj (w.heap.size+1) (.loop {rec .ready none with state:=.busy})).heap.size=W2.heap.size:=by simp [World.putObj]
    refine wpIn_mono (hb2 _) ?_
    rintro e a3' W3 hp
    have fin:∀ (J:List β→(Nat→Prop)→(Nat→Prop)→World→Prop) F3 G3 o',OwnF w.heap.size J→Only F (W2.putObj (w.heap.size+1) (.loop {rec .ready none with state:=.busy})) W3→(∀ k,F3 k→F k∨(W.heap.size≤k∧k<W3.heap.size))→(∀ k,G3 k→G k∨Hd args k∨(W.heap.size≤k∧k<W3.heap.size))→J (pre++[x]) F3 G3 W3 →
      Only F' W (W3.putObj (w.heap.size+1) (.loop o'))∧(∀ k,(F3 k∨k=w.heap.size∨k=w.heap.size+1)→F' k∨(W.heap.size≤k∧k<(W3.putObj (w.heap.size+1) (.loop o')).heap.size)) ∧
      (∀ k,G3 k→G k∨Hd args k∨(W.heap.size≤k∧k<(W3.putObj (w.heap.size+1) (.loop o')).heap.size))∧JJ J o' (pre++[x]) (fun k=>F3 k∨k=w.heap.size∨k=w.heap.size+1) G3 (W3.putObj (w.heap.size+1) (.loop o')):=by
     intro J F3 G3 o' hJ ho3 hF3 hG3 hj3
     have hl3:=(ho3.block _ (by omega) a2).trans hl2
     have hd3:=(ho3.block _ (by omega) a1).trans hd2
     have hz3:(W3.putObj (w.heap.size+1) (.loop o')).heap.size=W3.heap.size:=by simp [World.putObj]
     have n1:¬ F3 (w.heap.size+1):=fun h=>(hF3 _ h).elim a2 (fun h=>by omega)
     have n0:¬ F3 w.heap.size:=fun h=>(hF3 _ h).elim a1 (fun h=>by omega)
     have nh:∀ k,Hd args k→k≠w.heap.size+1∧k≠w.heap.size:=fun k h=>by
      obtain ⟨t,cs,fr,hc⟩:=hHd x args W henc k h
      exact ⟨fun e=>(by rw [e,hl] at hc;cases hc),fun e=>(by rw [e,hd] at hc;cases hc)⟩
     have g1:¬ G3 (w.heap.size+1):=fun h=>(hG3 _ h).elim a4 (fun h=>h.elim (fun h=>(nh _ h).1 rfl) (fun h=>by omega))
     have g0:¬ G3 w.heap.size:=fun h=>(hG3 _ h).elim a3 (fun h=>h.elim (fun h=>(nh _ h).2 rfl) (fun h=>by omega))
     refine ⟨?_,?_,?_,?_⟩
     ·refine ((ho2.trans (Only.putObj W2 _ _) (K:=F') (fun k _ h=>h.elim) (fun k _ e=>(hFF k).2 (.inr (.inr e)))).trans ho3 (K:=F') (fun k _ h=>h) (fun k _ h=>(hFF k).2 (.inl h))).trans (Only.putObj W3 _ _) (fun k _ h=>h) (fun k _ e=>(hFF k).2 (.inr (.inr e)))
     ·rintro k (h | h)
      ·rcases hF3 k h with h | h
       ·exact .inl ((hFF k).2 (.inl h))
       ·exact .inr (by rw [hz3];exact h)
      ·exact .inl ((hFF k).2 (.inr h))
     ·intro k h
      rw [hz3]
      exact hG3 k h
     ·rw [hJJ]
      refine ⟨F3,fun _=>Iff.rfl,turn J _ _ _ _ _ hJ hj3 n1 g1,n0,n1,g0,g1,?_,?_⟩
      ·exact World.putObj_heap_same (Array.getElem?_eq_some_iff.1 hl3).1
      ·exact (World.putObj_heap_other (by omega)).trans hd3
    cases e with
    | normal =>
     obtain ⟨F3,G3,ho3,hF3,hG3,hi3⟩:=hp
     have hl3:=(ho3.block _ (by simp only [World.putObj,Array.size_setIfInBounds];omega) a2).trans hl2
     have hr:=run_endRound (P:=P) none hl3
     obtain ⟨q1,q2,q3,q4⟩:=fin I F3 G3 _ hI ho3 hF3 hG3 hi3
     refine ⟨_,_,hr,_,_,q1,q2,q3,.inl ⟨rfl,?_⟩⟩
     rw [hrec] at q4 ⊢
     exact q4
    | ret =>
     obtain ⟨F3,G3,ho3,hF3,hG3,hi3⟩:=hp
     have hl3:=(ho3.block _ (by simp only [World.putObj,Array.size_setIfInBounds];omega) a2).trans hl2
     have hr:=run_endRound (P:=P) (some .ret) hl3
     obtain ⟨q1,q2,q3,q4⟩:=fin Ix F3 G3 _ hIx ho3 hF3 hG3 hi3
     refine ⟨_,_,hr,_,_,q1,q2,q3,.inr ⟨rfl,?_⟩⟩
     rw [hrec] at q4 ⊢
     exact q4
    | exit id=>exact hp.elim
    | goto t=>exact hp.elim
    | panic ch=>exact hp.elim
    | outgrown=>exact hp.elim
   | ret=>exact hh.elim
   | exit id=>exact hh.elim
   | goto t=>exact hh.elim
   | panic ch=>exact hh.elim
   | outgrown=>exact hh.elim
  ·rintro e W2 ⟨⟨v,rfl⟩,(⟨F',G',hj⟩ | ⟨pre,F',G',hSp,hj⟩)⟩
   ·rw [hJJ] at hj
    obtain ⟨F,hFF,hi,a1,a2,a3,a4,hl,hd⟩:=hj
    have hr:=run_endLoop (P:=P) hl (by rw [hrec];simp)
    have hp:(rec .ready none).pending=none:=by rw [hrec]
    rw [hp] at hr
    exact ⟨none,_,hr,hdone _ _ _ _ (Nat.le_refl _) (turn I _ _ _ _ _ hI hi a2 a4) ((World.putObj_heap_other (by omega)).trans hd)⟩
   ·rw [hJJ] at hj
    obtain ⟨F,hFF,hi,a1,a2,a3,a4,hl,hd⟩:=hj
    have hr:=run_endLoop (P:=P) hl (by rw [hrec];simp)
    have hp:(rec .done (some .ret)).pending=some .ret:=by rw [hrec]
    rw [hp] at hr
    exact ⟨some .ret,_,hr,hstop _ pre _ _ _ (Nat.le_refl _) hSp (turn Ix _ _ _ _ _ hIx hi a2 a4) ((World.putObj_heap_other (by omega)).trans hd)⟩
end Go.Proofs.YtdnhjnlhmfajnaaGreatDoor.G
