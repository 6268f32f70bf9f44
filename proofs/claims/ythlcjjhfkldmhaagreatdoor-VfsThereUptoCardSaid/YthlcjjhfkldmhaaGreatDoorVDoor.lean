import Derived.Test.YthlcjjhfkldmhaaGreatDoorVFrame
import Derived.Test.YthlcjjhfkldmhaaGreatDoorCards
import Derived.Test.YthlcjjhfkldmhaaGreatDoorTie
import Derived.Deep.DeepHandedRow
import Derived.Lib.LaidTab
set_option linter.unusedVariables false
set_option linter.unusedSimpArgs false
namespace Go.Proofs.YthlcjjhfkldmhaaGreatDoor.G
open Go.ChangeShapes Go.WideShapes Go.ChangeAt Go.RowKit
set_option linter.unusedVariables false
mutual
def flatD {H:Type}:DataW H→List Value
 | .lit (.int k n)=>[.int k n]
 | .agg l=>flatA l
 | _=>[]
def flatA {H:Type}:List (DataW H)→List Value
 | []=>[]
 | d :: r=>flatD d++flatA r
end
def fillO (l:List Value) (o:Obj):Obj:=match o with
 | .cells _ t frozen=>.cells l.toArray t frozen
 | o=>o
noncomputable def laidWorld (os:Os):World :=
 {World.holding Tryz.prog os ⟨#[],#[],[]⟩ with heap:=((World.holding Tryz.prog os ⟨#[],#[],[]⟩).heap.modify 1 (fillO (flatD Rows.laid_unicode_utf8_first))).modify 2 (fillO (flatD (H:=Unit) Rows.laid_unicode_utf8_acceptRanges))}
theorem plain_of {p:Pinned} {name:String} {f0:FuncId} {fn0:Func} (h1:p.checked.prog.funcNamed name=some f0) (h2:p.checked.prog.funcs[f0]? = some fn0) (h3:false=p.checked.prog.looks []) (h4:(fn0.params.toList.all fun t => !p.checked.prog.wantsStandIn t)=true)
  (f:FuncId) (fn:Func) (hf:p.checked.prog.funcNamed name=some f) (hfn:p.checked.prog.funcs[f]? = some fn) :
  false=p.checked.prog.looks []∧∀ (j:Nat) t,fn.params[j]? = some t→p.checked.prog.wantsStandIn t=false:=by
 rw [h1] at hf
 injection hf with hf
 subst hf
 rw [h2] at hfn
 injection hfn with hfn
 subst hfn
 refine ⟨h3,fun j t ht => ?_⟩
 have hm:t∈fn0.params.toList:=by
  have:=Array.mem_of_getElem? ht
  simpa using this
 have:=List.all_eq_true.1 h4 t hm
 simpa using this
end Go.Proofs.YthlcjjhfkldmhaaGreatDoor.G
