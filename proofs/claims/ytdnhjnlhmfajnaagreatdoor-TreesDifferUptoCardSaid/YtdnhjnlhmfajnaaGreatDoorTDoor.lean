import Derived.Test.YtdnhjnlhmfajnaaGreatDoorTFrame
import Derived.Test.YtdnhjnlhmfajnaaGreatDoorTTold
import Derived.Test.YtdnhjnlhmfajnaaGreatDoorTLines
import Derived.Test.YtdnhjnlhmfajnaaGreatDoorCards
import Derived.Test.YtdnhjnlhmfajnaaGreatDoorTie
import Derived.Deep.DeepHandedRow
import Derived.Lib.LaidTab
set_option linter.unusedVariables false
set_option linter.unusedSimpArgs false
namespace Go.Proofs.YtdnhjnlhmfajnaaGreatDoor.G
open Go.ChangeShapes Go.WideShapes Go.ChangeAt Go.RowKit
set_option linter.unusedVariables false
mutual
def flatD {H:Type}:DataW H→List Value
 | .lit (.int k n)=>[.int k n]
 | .agg l=>flatA l
 | _=>[]
def flatA {H:Type}:List (DataW H)→List Value
 | []=>[]
 | d :: r=>flatD d++flatA r
end
def fillO (l:List Value) (o:Obj):Obj:=match o with
 | .cells _ t frozen=>.cells l.toArray t frozen
 | o=>o
noncomputable def laidWorld (os:Os):World :=
 {World.holding Tryz.prog os ⟨#[],#[],[]⟩ with heap:=(((World.holding Tryz.prog os ⟨#[],#[],[]⟩).heap.modify 2 (fillO (flatD Rows.laid_unicode_utf8_first))).modify 3 (fillO (flatD (H:=Unit) Rows.laid_unicode_utf8_acceptRanges))).modify 0 (fillO (flatD (H:=Unit) Rows.laid_paddock_lines_short))}
theorem plain_of {p:Pinned} {name:String} {f0:FuncId} {fn0:Func} {lk:Bool} (h1:p.checked.prog.funcNamed name=some f0) (h2:p.checked.prog.funcs[f0]? = some fn0) (h3:lk=p.checked.prog.looks []) (h4:(fn0.params.toList.all fun t => !p.checked.prog.wantsStandIn t)=true)
  (f:FuncId) (fn:Func) (hf:p.checked.prog.funcNamed name=some f) (hfn:p.checked.prog.funcs[f]? = some fn) :
  lk=p.checked.prog.looks []∧∀ (j:Nat) t,fn.params[j]? = some t→p.checked.prog.wantsStandIn t=false:=by
 rw [h1] at hf
 injection hf with hf
 subst hf
 rw [h2] at hfn
 injection hfn with hfn
 subst hfn
 refine ⟨h3,fun j t ht => ?_⟩
 have hm:t∈fn0.params.toList:=by
  have:=Array.mem_of_getElem? ht
  simpa using this
 have:=List.all_eq_true.1 h4 t hm
 simpa using this
theorem laid_of {P:Program} {laid:List (String×DataW Unit)} {W:World} (hn:(laid.filter fun x=>x.2.handleName?.isSome)=[]) (h:laidMetH P laid W):laidMet P laid W:=by
 unfold laidMetH at h
 rw [hn] at h
 exact h
theorem maxed_of {w:World} (h:w.ShapedOpen Tryz.prog):Maxed w :=
 Go.Proofs.cell_of_shapedOpen_int (zero:=#[.int .i64 0]) (t:=3) h (of_decide_eq_true (by kernel_rfl)) (by kernel_rfl) rfl (by kernel_rfl) (by kernel_rfl) Tryz.underlying3
theorem tab_of {W : World} {n : String} {d : DataW Unit} {rest : List (String × DataW Unit)} (h : laidMet Tryz.prog ((n, d) :: ("paddock/lines.short", Rows.laid_paddock_lines_short) :: rest) W) : Tab W := by
 obtain ⟨ps,⟨g0,t0,cs0,fuel0,p0,q0,_,_,_,_,hl,_⟩,_⟩:=h
 obtain ⟨g',t',cs,fuel,p,q,hg',ht',hvar,hd,_,_⟩:=hl
 have hg : Tryz.prog.globalNamed "paddock/lines.short" = some 0 := by kernel_rfl
 obtain rfl:=Option.some.inj (hg.symm.trans hg')
 have hty:(Tryz.prog.globals[0]?).map (·.type)=some 163:=by kernel_rfl
 obtain rfl:=Option.some.inj (hty.symm.trans ht')
 have hcs:=Lib.cells_of_tab (k:=.u8) (zs:=[0,0,0,0,0,0,0,97,98,116,110,118,102,114]) Tryz.underlying163 Tryz.underlying5 (by kernel_rfl) (by kernel_rfl) hd
 have hT : Lib.TabIs Tryz.prog W "paddock/lines.short" .u8 [0, 0, 0, 0, 0, 0, 0, 97, 98, 116, 110, 118, 102, 114] := by unfold Lib.TabIs; rw [hvar, ← hcs]
 intro i hi
 rw [hT.cell hg i hi]
 match i,hi with
 | 0,_ | 1,_ | 2,_ | 3,_ | 4,_ | 5,_ | 6,_ | 7,_ | 8,_ | 9,_ | 10,_ | 11,_ | 12,_ | 13,_=>rfl
end Go.Proofs.YtdnhjnlhmfajnaaGreatDoor.G
