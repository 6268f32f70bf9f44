import Derived.Test.YtdnhjnlhmfajnaaGreatDoorTFile
import Derived.Test.YtdnhjnlhmfajnaaGreatDoorRangeR
set_option linter.unusedVariables false
set_option linter.unusedSimpArgs false
namespace Go.Proofs.YtdnhjnlhmfajnaaGreatDoor.G
open Go.RowKit Go.Lib Go.Proofs.YtdnhjnlhmfajnaaGreatDoorW.PrintWords Go.Proofs.YtdnhjnlhmfajnaaGreatDoorW.PrintLast
set_option linter.unusedVariables false
theorem append_run {P:Program} {W:World} {t ty:TypeId} {o:Oper} {v vx:Value} {R:Value→World→Prop} (a:Act) (ha:a.tmps=#[undef]) (hgd:o.guard=none) (hd:o.dst=some 0)
  (ho:o.op=.call {callee:=.builtin .append,args:=#[.const v,.const vx],argTypes:=#[t,t]}) (hty:o.type=ty)
  (h:wpList P #[] (fun e a' w1=>e=.normal∧∃ v1,a'=a.put (some 0) v1∧R v1 w1) [o] a W) :
  ∃ v1 w1,(Builtin.append_ #[t,t] ty #[v,vx]).run P W=.ok v1 w1∧R v1 w1:=by
 have hlet:¬ LetsOut (fun e a' w1=>e=Exit.normal∧∃ v1,a'=a.put (some 0) v1∧R v1 w1):=by
  rintro ⟨a',w',h1,_⟩
  cases h1
 simp only [wpList,Region.wanted,hgd,if_true] at h
 rcases h with h | h
 ·unfold Oper.wp execOp at h
  simp only [ho,hty,resolve,invoke,builtin,Sem.run_bind,Sem.run_pure,Result.andThen_ok,List.map_toArray,List.map_cons,List.map_nil,Act.eval] at h
  generalize (Builtin.append_ #[t,t] ty #[v,vx]).run P W=r at h
  cases r with
  | ok v1 w1 =>
   simp only [Result.andThen_ok,Oper.upon,hd] at h ⊢
   obtain ⟨_,v2,h1,h2⟩:=h
   have:=congrArg Act.tmps h1
   simp [Act.put,ha] at this
   subst this
   exact ⟨_,_,rfl,h2⟩
  | halt st w1 =>
   cases st <;> simp [Result.andThen,Oper.upon] at h
 ·exact absurd h.2 hlet
theorem appendIn {F:Fence} {n:Nat} {P:Program} {W w1:World} {ops:Array Oper} {rest:List Oper} {o:Oper} {a:Act} {Q:Exit→Act→World→Prop}
  (hg:o.guard=none) (s x:Operand) (t:TypeId) (hop:o.op=Op.call {callee:=Callee.builtin Builtin.append,args:=#[s,x],argTypes:=#[t,t]}) (v vx v1:Value) (hs:a.eval s=v) (hx:a.eval x=vx)
  (hrun:(Builtin.append_ #[t,t] o.type #[v,vx]).run P W=.ok v1 w1) (h:wpListIn F n P ops Q rest (a.put o.dst v1) w1):wpListIn F n P ops Q (o :: rest) a W:=by
 refine wpListIn_plain hg fun K hK' => ?_
 unfold Oper.wpIn
 refine ⟨?_,?_⟩
 ·simp [Oper.about,hop,resolve,Target.leads,Sem.run_pure]
 ·rw [Oper.semAt_plain F _ _ (by rw [hop];intro c hc';cases hc')]
  simp [execOp,hop,resolve,invoke,builtin,hs,hx,hrun,Result.andThen]
  exact hK' _ _ h
end Go.Proofs.YtdnhjnlhmfajnaaGreatDoor.G
