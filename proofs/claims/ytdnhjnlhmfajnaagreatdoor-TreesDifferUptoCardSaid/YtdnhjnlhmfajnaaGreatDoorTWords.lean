import Derived.Test.YtdnhjnlhmfajnaaGreatDoorTBelow
import Derived.WideMake
import Derived.Carry
set_option linter.unusedVariables false
set_option linter.unusedSimpArgs false
namespace Go.Proofs.YtdnhjnlhmfajnaaGreatDoor.G
open Go.RowKit Go.Shelf Go.Lib Go.Proofs.YtdnhjnlhmfajnaaGreatDoorW.PrintWords Go.Proofs.YtdnhjnlhmfajnaaGreatDoorW.PrintLast
set_option linter.unusedVariables false
def wDir:ByteArray:=⟨#[100,105,114]⟩
def wText:ByteArray:=⟨#[116,101,120,116]⟩
def wLink:ByteArray:=⟨#[108,105,110,107]⟩
def wordS (k:Int):ByteArray:=if k=1 then wDir else if k=2 then wText else if k=3 then wLink else ⟨#[]⟩
def wordE:Array MapEntry:=#[{key:=.int .u8 1,val:=.string wDir,born:=0},{key:=.int .u8 2,val:=.string wText,born:=1},{key:=.int .u8 3,val:=.string wLink,born:=2}]
def Worded (W:World) (r:Nat):Prop:=W.heap[r]? = some (.map wordE 3)
theorem words_insert (w:World) (r clock:Nat) (es:Array MapEntry) (n:Int) (val:Value) (hb:w.heap[r]? = some (.map es clock)) (hf:Instr.findNow (.int .u8) (.int .u8 n) es.toList 0=some none) :
  (Instr.mapUpdate 73 (.map (some r)) (.int .u8 n) val).run Tryz.prog w=.ok () (w.putObj r (.map (es.push {key:=.int .u8 n,val:=val,born:=clock}) (clock+1))):=by
 have hc:(Instr.checkKey false 10000 22 (.int .u8 n)).run Tryz.prog w=.ok () w:=MapKept.run_checkKey Tryz.underlying22 (by simp [MapKept.IsKey]) false 9999
 simp [Instr.mapUpdate,run_underlying Tryz.underlying73,MapKept.run_getObj_map hb,hc,MapKept.run_findKey Tryz.underlying22 hf,MapKept.run_setObj_map _ hb,Result.andThen,World.putObj]
theorem find_none:∀ (k:Int) (es:List MapEntry) (i:Nat),(∀ e∈es,∃ n,e.key=.int .u8 n∧k≠n)→Instr.findNow (.int .u8) (.int .u8 k) es i=some none
 | k,[],i,_=>rfl
 | k,e :: es,i,h=>by
  obtain ⟨n,hn,hk⟩:=h e List.mem_cons_self
  have hs:Instr.sameNow (.int .u8) (.int .u8 k) e.key=some false:=by
   rw [hn]
   simp [Instr.sameNow,hk]
  simp only [Instr.findNow,hs]
  exact find_none k es (i+1) fun x hx=>h x (List.mem_cons_of_mem _ hx)
theorem lookup_words (W:World) (r:Nat) (k:Int) (hb:Worded W r) :
  (Instr.lookup 73 (.map (some r)) (.int .u8 k) false).run Tryz.prog W=.ok (.string (wordS k)) W:=by
 have hc:∀ b,(Instr.checkKey b 10000 22 (.int .u8 k)).run Tryz.prog W=.ok () W:=fun b=>MapKept.run_checkKey Tryz.underlying22 (by simp [MapKept.IsKey]) b 9999
 have hz:(zeroValue 9).run Tryz.prog W=.ok (.string ⟨#[]⟩) W:=by kernel_rfl
 unfold Worded at hb
 by_cases h1:k=1
 ·subst h1
  have hf:Instr.findNow (.int .u8) (.int .u8 1) wordE.toList 0=some (some (0,.string wDir)):=rfl
  simp [Instr.lookup,run_underlying Tryz.underlying73,MapKept.run_getObj_map hb,hc,MapKept.run_findKey Tryz.underlying22 hf,Result.andThen,wordS]
 by_cases h2:k=2
 ·subst h2
  have hf:Instr.findNow (.int .u8) (.int .u8 2) wordE.toList 0=some (some (1,.string wText)):=rfl
  simp [Instr.lookup,run_underlying Tryz.underlying73,MapKept.run_getObj_map hb,hc,MapKept.run_findKey Tryz.underlying22 hf,Result.andThen,wordS]
 by_cases h3:k=3
 ·subst h3
  have hf:Instr.findNow (.int .u8) (.int .u8 3) wordE.toList 0=some (some (2,.string wLink)):=rfl
  simp [Instr.lookup,run_underlying Tryz.underlying73,MapKept.run_getObj_map hb,hc,MapKept.run_findKey Tryz.underlying22 hf,Result.andThen,wordS]
 ·have hf:Instr.findNow (.int .u8) (.int .u8 k) wordE.toList 0=some none:=find_none k _ _ (by
   intro e he
   simp only [wordE,List.mem_cons,List.not_mem_nil,or_false] at he
   rcases he with rfl | rfl | rfl
   ·exact ⟨1,rfl,h1⟩
   ·exact ⟨2,rfl,h2⟩
   ·exact ⟨3,rfl,h3⟩)
  simp [Instr.lookup,run_underlying Tryz.underlying73,MapKept.run_getObj_map hb,hc,MapKept.run_findKey Tryz.underlying22 hf,Result.andThen,wordS,h1,h2,h3,hz]
set_option maxHeartbeats 4000000 in
set_option maxRecDepth 100000 in
theorem words_calls (w:World) :
  Calls Tryz.prog 39 #[] w fun e w'=>e=.returned (.map (some w.heap.size))∧Worded w' w.heap.size∧Below w.heap.size w w':=by
 have hmm := @run_makeMap Tryz.prog
 have hb0:(w.alloc (.map #[] 0)).heap[w.heap.size]? = some (.map #[] 0):=World.alloc_heap_new w _
 have hs0:w.heap.size<(w.alloc (.map #[] 0)).heap.size:=by simp
 have q0:Below w.heap.size w (w.alloc (.map #[] 0)):=below_alloc (Below.refl _ _) _
 have i1:=words_insert _ w.heap.size 0 #[] 1 (.string wDir) hb0 rfl
 generalize e0:w.alloc (.map #[] 0)=w0 at *
 have hb1:(w0.putObj w.heap.size (.map (#[].push {key:=.int .u8 1,val:=.string wDir,born:=0}) (0+1))).heap[w.heap.size]? = _:=World.putObj_heap_same hs0
 have hs1:w.heap.size<(w0.putObj w.heap.size (.map (#[].push {key:=.int .u8 1,val:=.string wDir,born:=0}) (0+1))).heap.size:=by simpa [World.putObj] using hs0
 have q1:=bput q0 (Nat.le_refl _) (.map (#[].push {key:=.int .u8 1,val:=.string wDir,born:=0}) (0+1))
 have i2:=words_insert _ w.heap.size _ _ 2 (.string wText) hb1 rfl
 generalize w0.putObj w.heap.size (.map (#[].push {key:=.int .u8 1,val:=.string wDir,born:=0}) (0+1))=w1 at *
 have hb2:(w1.putObj w.heap.size (.map ((#[].push {key:=.int .u8 1,val:=.string wDir,born:=0}).push {key:=.int .u8 2,val:=.string wText,born:=0+1}) (0+1+1))).heap[w.heap.size]? = _:=World.putObj_heap_same hs1
 have hs2:w.heap.size<(w1.putObj w.heap.size (.map ((#[].push {key:=.int .u8 1,val:=.string wDir,born:=0}).push {key:=.int .u8 2,val:=.string wText,born:=0+1}) (0+1+1))).heap.size:=by simpa [World.putObj] using hs1
 have q2:=bput q1 (Nat.le_refl _) (.map ((#[].push {key:=.int .u8 1,val:=.string wDir,born:=0}).push {key:=.int .u8 2,val:=.string wText,born:=0+1}) (0+1+1))
 have i3:=words_insert _ w.heap.size _ _ 3 (.string wLink) hb2 rfl
 generalize w1.putObj w.heap.size (.map ((#[].push {key:=.int .u8 1,val:=.string wDir,born:=0}).push {key:=.int .u8 2,val:=.string wText,born:=0+1}) (0+1+1))=w2 at *
 have hb3:(w2.putObj w.heap.size (.map (((#[].push {key:=.int .u8 1,val:=.string wDir,born:=0}).push {key:=.int .u8 2,val:=.string wText,born:=0+1}).push {key:=.int .u8 3,val:=.string wLink,born:=0+1+1}) (0+1+1+1))).heap[w.heap.size]? = _:=World.putObj_heap_same hs2
 have q3:=bput q2 (Nat.le_refl _) (.map (((#[].push {key:=.int .u8 1,val:=.string wDir,born:=0}).push {key:=.int .u8 2,val:=.string wText,born:=0+1}).push {key:=.int .u8 3,val:=.string wLink,born:=0+1+1}) (0+1+1+1))
 have HW:Hid (Worded (w2.putObj w.heap.size (.map (((#[].push {key:=.int .u8 1,val:=.string wDir,born:=0}).push {key:=.int .u8 2,val:=.string wText,born:=0+1}).push {key:=.int .u8 3,val:=.string wLink,born:=0+1+1}) (0+1+1+1))) w.heap.size):=Lib.hid hb3
 generalize w2.putObj w.heap.size (.map (((#[].push {key:=.int .u8 1,val:=.string wDir,born:=0}).push {key:=.int .u8 2,val:=.string wText,born:=0+1}).push {key:=.int .u8 3,val:=.string wLink,born:=0+1+1}) (0+1+1+1))=w3 at *
 clear hb0 hb1 hb2 hb3 hs0 hs1 hs2 q0 q1 q2
 have Q3:=Lib.hid q3
 clear q3
 unfold wDir at i1
 unfold wText at i2
 unfold wLink at i3
 go_enter Tryz.func39,Tryz.ntmps39
 go_wp2
 go_ret
 exact ⟨rfl,HW.out,Q3.out⟩
end Go.Proofs.YtdnhjnlhmfajnaaGreatDoor.G
