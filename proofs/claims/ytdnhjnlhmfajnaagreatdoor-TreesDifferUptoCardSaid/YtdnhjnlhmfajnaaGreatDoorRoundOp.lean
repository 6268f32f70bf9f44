import Derived.Test.YtdnhjnlhmfajnaaGreatDoorRangeR
import Derived.OrdersIn
import Derived.Test.YtdnhjnlhmfajnaaGreatDoorQLast
set_option linter.unusedVariables false
set_option linter.unusedSimpArgs false
namespace Go.Proofs.YtdnhjnlhmfajnaaGreatDoor.G
open Go.RowKit Go.Proofs.YtdnhjnlhmfajnaaGreatDoorW.PrintLast
set_option linter.unusedVariables false
theorem wpIn_of_wp_op {P:Program} {o:Oper} {a:Act} {w:World} {K:Act→World→Prop} {Q:Exit→Act→World→Prop} {l n:Nat} (hd:∀ c,o.op ≠ .defer c) (h:o.wp P a w K Q):o.wpIn (Fence.wide.inRound l) n P a w K Q:=by
 refine ⟨fun _ _=>trivial,?_⟩
 rw [Oper.semAt_eq _ _ _ hd]
 unfold Oper.wp at h
 generalize (execOp a.eval o).run P w=r at *
 cases r with
 | ok x w' =>
  cases x with
  | value v=>exact h
  | skip=>exact h
  | defer d=>exact h
  | enter f args=>exact ⟨fun h=>(by cases h),CallsIn.inRound l (callsIn_wide.2 h)⟩
  | row row args =>
   refine ⟨fun h=>(by cases h),fun c cs hr => ?_⟩
   obtain ⟨v,w',r,s⟩:=h c cs
   exact ⟨v,w',r,stepsIn_wide.2 s⟩
  | _=>exact h.elim
 | halt x w'=>cases x <;> first | exact h | exact h.elim
theorem wpAnyIn_of_any {P:Program} {md:Region.Mode} {ops:Array Oper} {Q:Exit→Act→World→Prop} {l n:Nat} (hL:¬ LetsOut Q) (hd:∀ (i:Nat) (o:Oper),ops[i]? = some o→∀ c,o.op ≠ .defer c) :
  ∀ (fuel:Nat) (listed:Array Bool) (a:Act) (w:World),wpAny P md ops Q fuel listed a w→wpAnyIn (Fence.wide.inRound l) n P md ops Q fuel listed a w
 | 0,_,_,_,h=>h
 | fuel+1,listed,a,w,h=>by
  refine ⟨h.1,fun i hi => ?_⟩
  have h1:=h.2 i hi
  unfold wpOp at h1
  unfold wpOpIn
  cases ho:ops[i]? with
  | none =>
   rw [ho] at h1
   exact wpAnyIn_of_any hL hd fuel _ _ _ h1
  | some o =>
   rw [ho] at h1
   simp only at h1 ⊢
   by_cases hw:Region.wanted o (yielded ops a.tmps)=true
   ·rw [if_pos hw] at h1 ⊢
    rcases h1 with h1 | h1
    ·exact Oper.wpIn_mono (fun a w h=>wpAnyIn_of_any hL hd fuel _ a w h) (wpIn_of_wp_op (hd i o ho) h1)
    ·exact (hL h1.2).elim
   ·rw [if_neg hw] at h1 ⊢
    exact ⟨fun _ _=>trivial,wpAnyIn_of_any hL hd fuel _ _ _ h1⟩
def noDefer (ops:Array Oper):Bool:=ops.all fun o=>match o.op with | .defer _=>false | _=>true
theorem noDefer_spec {ops:Array Oper} (h:noDefer ops=true) (i:Nat) (o:Oper) (ho:ops[i]? = some o) (c):o.op ≠ .defer c:=by
 intro e
 have:=Array.all_eq_true_iff_forall_mem.1 h o (Array.mem_of_getElem? ho)
 rw [e] at this
 cases this
theorem startIn_ {P:Program} {ops:Array Oper} {Q:Exit→Act→World→Prop} {S:World→Prop} {ds:List Nat} {id n l m:Nat} {a:Act} {w:World} (lst:Array Bool) (hm:P.follows .mixedOrders=true) (hd:noDefer ops=true) (hL:¬ LetsOut Q) (hn:ops.size=n) (hl:Array.replicate n false=lst) (hS:S w.drew)
  (h:S w.drew→wpAnyLast P .any ops Q S ds n lst a w.drew):(Code.region id ops true).wpIn (Fence.wide.inRound l) m P Q a w:=by
 subst hn
 subst hl
 exact wpIn_region_any hm (wpAnyIn_of_any hL (fun i o ho=>noDefer_spec hd i o ho) _ _ _ _ (wpAny_of_last _ _ _ _ (h hS)))
end Go.Proofs.YtdnhjnlhmfajnaaGreatDoor.G
