import Derived.Test.YtdnhjnlhmfajnaaGreatDoorProg
import Derived.Calls
import Derived.Below
import Derived.Deep.QuietTactic
import Derived.Deep.Draws
import Derived.RangeFuncRecord
import Derived.Laws.RangeString
set_option linter.unusedVariables false
set_option linter.unusedSimpArgs false
section
namespace Go.Proofs.YtdnhjnlhmfajnaaGreatDoor.G
set_option linter.unusedVariables false
abbrev zC:Array Value:=#[.string ⟨#[]⟩,.int .u8 0,.string ⟨#[]⟩,.slice none 0 0]
theorem c2A {W:World} {q:Nat} {cs:Array Value} {a b:Value} {t:TypeId} (z:W.heap[q]? = some (.cells cs t (0,0))) (z0:cs[0]? = some a:=by rfl) (z1:cs[1]? = some b:=by rfl):W.cell? ⟨q,0,none⟩=some a∧W.cell? ⟨q,1,none⟩=some b:=by simp [World.cell?,z,z0,z1]
theorem c3A {W:World} {q:Nat} {cs:Array Value} {a b c:Value} {t:TypeId} (z:W.heap[q]? = some (.cells cs t (0,0))) (z0:cs[0]? = some a:=by rfl) (z1:cs[1]? = some b:=by rfl) (z2:cs[2]? = some c:=by rfl):W.cell? ⟨q,0,none⟩=some a∧W.cell? ⟨q,1,none⟩=some b∧W.cell? ⟨q,2,none⟩=some c:=by simp [World.cell?,z,z0,z1,z2]
theorem c4A {W:World} {q:Nat} {cs:Array Value} {a b c d:Value} {t:TypeId} (z:W.heap[q]? = some (.cells cs t (0,0))) (z0:cs[0]? = some a:=by rfl) (z1:cs[1]? = some b:=by rfl) (z2:cs[2]? = some c:=by rfl) (z3:cs[3]? = some d:=by rfl):W.cell? ⟨q,0,none⟩=some a∧W.cell? ⟨q,1,none⟩=some b∧W.cell? ⟨q,2,none⟩=some c∧W.cell? ⟨q,3,none⟩=some d:=by simp [World.cell?,z,z0,z1,z2,z3]
theorem c5A {W:World} {q:Nat} {cs:Array Value} {a b c d e:Value} {t:TypeId} (z:W.heap[q]? = some (.cells cs t (0,0))) (z0:cs[0]? = some a:=by rfl) (z1:cs[1]? = some b:=by rfl) (z2:cs[2]? = some c:=by rfl) (z3:cs[3]? = some d:=by rfl) (z4:cs[4]? = some e:=by rfl):W.cell? ⟨q,0,none⟩=some a∧W.cell? ⟨q,1,none⟩=some b∧W.cell? ⟨q,2,none⟩=some c∧W.cell? ⟨q,3,none⟩=some d∧W.cell? ⟨q,4,none⟩=some e:=by simp [World.cell?,z,z0,z1,z2,z3,z4]
theorem c6A {W:World} {q:Nat} {cs:Array Value} {a b c d e f:Value} {t:TypeId} (z:W.heap[q]? = some (.cells cs t (0,0))) (z0:cs[0]? = some a:=by rfl) (z1:cs[1]? = some b:=by rfl) (z2:cs[2]? = some c:=by rfl) (z3:cs[3]? = some d:=by rfl) (z4:cs[4]? = some e:=by rfl) (z5:cs[5]? = some f:=by rfl):W.cell? ⟨q,0,none⟩=some a∧W.cell? ⟨q,1,none⟩=some b∧W.cell? ⟨q,2,none⟩=some c∧W.cell? ⟨q,3,none⟩=some d∧W.cell? ⟨q,4,none⟩=some e∧W.cell? ⟨q,5,none⟩=some f:=by simp [World.cell?,z,z0,z1,z2,z3,z4,z5]
theorem c7A {W:World} {q:Nat} {cs:Array Value} {a b c d e f g:Value} {t:TypeId} (z:W.heap[q]? = some (.cells cs t (0,0))) (z0:cs[0]? = some a:=by rfl) (z1:cs[1]? = some b:=by rfl) (z2:cs[2]? = some c:=by rfl) (z3:cs[3]? = some d:=by rfl) (z4:cs[4]? = some e:=by rfl) (z5:cs[5]? = some f:=by rfl) (z6:cs[6]? = some g:=by rfl):W.cell? ⟨q,0,none⟩=some a∧W.cell? ⟨q,1,none⟩=some b∧W.cell? ⟨q,2,none⟩=some c∧W.cell? ⟨q,3,none⟩=some d∧W.cell? ⟨q,4,none⟩=some e∧W.cell? ⟨q,5,none⟩=some f∧W.cell? ⟨q,6,none⟩=some g:=by simp [World.cell?,z,z0,z1,z2,z3,z4,z5,z6]
theorem u2A {W:World} {q:Nat} {cs:Array Value} {t:TypeId} (h:W.heap[q]? = some (.cells cs t (0,0))):W.frozen? ⟨q,0,none⟩=false∧W.frozen? ⟨q,1,none⟩=false:=by simp [World.frozen?,h]
theorem u3A {W:World} {q:Nat} {cs:Array Value} {t:TypeId} (h:W.heap[q]? = some (.cells cs t (0,0))):W.frozen? ⟨q,0,none⟩=false∧W.frozen? ⟨q,1,none⟩=false∧W.frozen? ⟨q,2,none⟩=false:=by simp [World.frozen?,h]
theorem u4A {W:World} {q:Nat} {cs:Array Value} {t:TypeId} (h:W.heap[q]? = some (.cells cs t (0,0))):W.frozen? ⟨q,0,none⟩=false∧W.frozen? ⟨q,1,none⟩=false∧W.frozen? ⟨q,2,none⟩=false∧W.frozen? ⟨q,3,none⟩=false:=by simp [World.frozen?,h]
theorem u5A {W:World} {q:Nat} {cs:Array Value} {t:TypeId} (h:W.heap[q]? = some (.cells cs t (0,0))):W.frozen? ⟨q,0,none⟩=false∧W.frozen? ⟨q,1,none⟩=false∧W.frozen? ⟨q,2,none⟩=false∧W.frozen? ⟨q,3,none⟩=false∧W.frozen? ⟨q,4,none⟩=false:=by simp [World.frozen?,h]
theorem u6A {W:World} {q:Nat} {cs:Array Value} {t:TypeId} (h:W.heap[q]? = some (.cells cs t (0,0))):W.frozen? ⟨q,0,none⟩=false∧W.frozen? ⟨q,1,none⟩=false∧W.frozen? ⟨q,2,none⟩=false∧W.frozen? ⟨q,3,none⟩=false∧W.frozen? ⟨q,4,none⟩=false∧W.frozen? ⟨q,5,none⟩=false:=by simp [World.frozen?,h]
theorem u7A {W:World} {q:Nat} {cs:Array Value} {t:TypeId} (h:W.heap[q]? = some (.cells cs t (0,0))):W.frozen? ⟨q,0,none⟩=false∧W.frozen? ⟨q,1,none⟩=false∧W.frozen? ⟨q,2,none⟩=false∧W.frozen? ⟨q,3,none⟩=false∧W.frozen? ⟨q,4,none⟩=false∧W.frozen? ⟨q,5,none⟩=false∧W.frozen? ⟨q,6,none⟩=false:=by simp [World.frozen?,h]
end Go.Proofs.YtdnhjnlhmfajnaaGreatDoor.G
end
section
namespace Go.Proofs.YtdnhjnlhmfajnaaGreatDoor.G
open Go.RowKit
theorem qcall {P:Program} {f:FuncId} {args:Array Value} {w:World} {a n:Nat} {v:Value}
  (h:Calls P f args (w.drewN (a+n)) fun e w'=>e=.returned v∧w'=w.drewN (a+n)) :
  Calls P f args (w.drewN (a+n)) fun e w''=>e=.returned v∧∃ m,w''=w.drewN (a+m) :=
 h.mono fun _ _ ⟨he,hm⟩=>⟨he,n,hm⟩
theorem bdrewN {B:Nat} {a w:World} (h:Below B a w) (n:Nat):Below B a (w.drewN n):=⟨h.os,h.tape,h.output,h.size,h.block⟩
theorem bput {B:Nat} {a w:World} (h:Below B a w) {k:Nat} (hk:B≤k) (o:Obj):Below B a (w.putObj k o) :=
 ⟨h.os,h.tape,h.output,by simpa [World.putObj] using h.size,fun i hi=>(World.putObj_heap_other (by omega)).trans (h.block i hi)⟩
theorem bstep {B:Nat} {a b c:World} (h:Below B a b) (hB:B≤b.heap.size) (k:Below b.heap.size b c):Below B a c:=h.trans (k.mono hB)
theorem bdrew {B:Nat} {a w:World} (h:Below B a w):Below B a w.drew:=⟨h.os,h.tape,h.output,h.size,h.block⟩
theorem run_next_blk {P:Program} (W:World) (k:Nat) (s:ByteArray) (pos:Nat) (ty:TypeId) (hk:W.heap[k]? = some (.stringIter s pos)) (h:pos<s.size) :
  (Instr.next (.pointer (some ⟨k,0,none⟩)) true ty).run P W =
   .ok (.tuple #[.bool true,.int .i64 pos,.int .i32 (Utf8.decode s pos).1]) (W.putObj k (.stringIter s (pos+(Utf8.decode s pos).2))):=by
 simp only [Instr.next,getObj,setObj,Sem.run_bind,Sem.run,hk,Result.andThen,h,if_true]
 simp [goInt,World.putObj]
theorem run_next_stop {P:Program} (W:World) (k:Nat) (s:ByteArray) (pos:Nat) (ty:TypeId) (hk:W.heap[k]? = some (.stringIter s pos)) (h:¬ pos<s.size) :
  (Instr.next (.pointer (some ⟨k,0,none⟩)) true ty).run P W=.ok (.tuple #[.bool false]) W:=by
 simp [Instr.next,getObj,Sem.run,hk,h]
end Go.Proofs.YtdnhjnlhmfajnaaGreatDoor.G
end
