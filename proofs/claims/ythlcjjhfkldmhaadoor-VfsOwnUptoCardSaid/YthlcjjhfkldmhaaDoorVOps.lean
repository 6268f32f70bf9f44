/- The five operations as one: by the call's kind. -/
import Derived.Test.YthlcjjhfkldmhaaDoorVPlain
import Derived.WideMake
import Derived.Carry
import Derived.MapKept
import Derived.Test.YthlcjjhfkldmhaaDoorVRead
import Derived.Test.YthlcjjhfkldmhaaDoorVAppend
import Derived.Test.YthlcjjhfkldmhaaDoorVCreate
import Derived.Test.YthlcjjhfkldmhaaDoorVEq
import Derived.Test.YthlcjjhfkldmhaaDoorVRename
set_option linter.unusedVariables false
set_option linter.unusedSimpArgs false
section
namespace Go.Proofs.YthlcjjhfkldmhaaDoor.G
open Go.RowKit Go.Shelf Go.Lib Go.Proofs.YthlcjjhfkldmhaaDoorW.PrintWords Go.Proofs.YthlcjjhfkldmhaaDoorW.PrintLast
set_option linter.unusedVariables false

def kindF (k : Int) : Value := if k = 1 then (.func (.func 73) #[] #[]) else if k = 2 then (.func (.func 74) #[] #[]) else if k = 3 then (.func (.func 75) #[] #[]) else if k = 4 then (.func (.func 76) #[] #[]) else (.func (.func 77) #[] #[])
def kindE : Array MapEntry := #[{ key := .int .u8 1, val := (.func (.func 73) #[] #[]), born := 0 }, { key := .int .u8 2, val := (.func (.func 74) #[] #[]), born := 1 }, { key := .int .u8 3, val := (.func (.func 75) #[] #[]), born := 2 }, { key := .int .u8 4, val := (.func (.func 76) #[] #[]), born := 3 }, { key := .int .u8 5, val := (.func (.func 77) #[] #[]), born := 4 }]
def Kinded (W : World) (r : Nat) : Prop := W.heap[r]? = some (.map kindE 5)
theorem kinds_insert (w : World) (r clock : Nat) (es : Array MapEntry) (n : Int) (val : Value) (hb : w.heap[r]? = some (.map es clock)) (hf : Instr.findNow (.int .u8) (.int .u8 n) es.toList 0 = some none) :
    (Instr.mapUpdate 104 (.map (some r)) (.int .u8 n) val).run Tryd.prog w = .ok () (w.putObj r (.map (es.push { key := .int .u8 n, val := val, born := clock }) (clock + 1))) := by
  have hc : (Instr.checkKey false 10000 44 (.int .u8 n)).run Tryd.prog w = .ok () w := MapKept.run_checkKey Tryd.underlying44 (by simp [MapKept.IsKey]) false 9999
  simp [Instr.mapUpdate, run_underlying Tryd.underlying104, MapKept.run_getObj_map hb, hc, MapKept.run_findKey Tryd.underlying44 hf, MapKept.run_setObj_map _ hb, Result.andThen, World.putObj]
theorem lookup_kinds (W : World) (r : Nat) (k : Int) (hb : Kinded W r) (h1 : 1 ≤ k) (h5 : k ≤ 5) :
    (Instr.lookup 104 (.map (some r)) (.int .u8 k) false).run Tryd.prog W = .ok (kindF k) W := by
  have hc : ∀ b, (Instr.checkKey b 10000 44 (.int .u8 k)).run Tryd.prog W = .ok () W := fun b => MapKept.run_checkKey Tryd.underlying44 (by simp [MapKept.IsKey]) b 9999
  unfold Kinded at hb
  have hk : k = 1 ∨ k = 2 ∨ k = 3 ∨ k = 4 ∨ k = 5 := by omega
  rcases hk with rfl | rfl | rfl | rfl | rfl
  · have hf : Instr.findNow (.int .u8) (.int .u8 1) kindE.toList 0 = some (some (0, (.func (.func 73) #[] #[]))) := rfl
    simp [Instr.lookup, run_underlying Tryd.underlying104, MapKept.run_getObj_map hb, hc, MapKept.run_findKey Tryd.underlying44 hf, Result.andThen, kindF]
  · have hf : Instr.findNow (.int .u8) (.int .u8 2) kindE.toList 0 = some (some (1, (.func (.func 74) #[] #[]))) := rfl
    simp [Instr.lookup, run_underlying Tryd.underlying104, MapKept.run_getObj_map hb, hc, MapKept.run_findKey Tryd.underlying44 hf, Result.andThen, kindF]
  · have hf : Instr.findNow (.int .u8) (.int .u8 3) kindE.toList 0 = some (some (2, (.func (.func 75) #[] #[]))) := rfl
    simp [Instr.lookup, run_underlying Tryd.underlying104, MapKept.run_getObj_map hb, hc, MapKept.run_findKey Tryd.underlying44 hf, Result.andThen, kindF]
  · have hf : Instr.findNow (.int .u8) (.int .u8 4) kindE.toList 0 = some (some (3, (.func (.func 76) #[] #[]))) := rfl
    simp [Instr.lookup, run_underlying Tryd.underlying104, MapKept.run_getObj_map hb, hc, MapKept.run_findKey Tryd.underlying44 hf, Result.andThen, kindF]
  · have hf : Instr.findNow (.int .u8) (.int .u8 5) kindE.toList 0 = some (some (4, (.func (.func 77) #[] #[]))) := rfl
    simp [Instr.lookup, run_underlying Tryd.underlying104, MapKept.run_getObj_map hb, hc, MapKept.run_findKey Tryd.underlying44 hf, Result.andThen, kindF]

set_option maxHeartbeats 4000000 in
set_option maxRecDepth 100000 in
theorem kinds_calls (w : World) :
    Calls Tryd.prog 58 #[] w fun e w' => e = .returned (.map (some w.heap.size)) ∧ Kinded w' w.heap.size ∧ Below w.heap.size w w' := by
  have hmm := @run_makeMap Tryd.prog
  have hb0 : (w.alloc (.map #[] 0)).heap[w.heap.size]? = some (.map #[] 0) := World.alloc_heap_new w _
  have hs0 : w.heap.size < (w.alloc (.map #[] 0)).heap.size := by simp
  have q0 : Below w.heap.size w (w.alloc (.map #[] 0)) := below_alloc (Below.refl _ _) _
  have i1 := kinds_insert _ w.heap.size 0 #[] 1 (.func (.func 73) #[] #[]) hb0 rfl
  generalize e0 : w.alloc (.map #[] 0) = w0 at *
  have hb1 : (w0.putObj w.heap.size (.map (#[].push { key := .int .u8 1, val := (.func (.func 73) #[] #[]), born := 0 }) (0 + 1))).heap[w.heap.size]? = _ := World.putObj_heap_same hs0
  have hs1 : w.heap.size < (w0.putObj w.heap.size (.map (#[].push { key := .int .u8 1, val := (.func (.func 73) #[] #[]), born := 0 }) (0 + 1))).heap.size := by simpa [World.putObj] using hs0
  have q1 := bput q0 (Nat.le_refl _) (.map (#[].push { key := .int .u8 1, val := (.func (.func 73) #[] #[]), born := 0 }) (0 + 1))
  have i2 := kinds_insert _ w.heap.size _ _ 2 (.func (.func 74) #[] #[]) hb1 rfl
  generalize w0.putObj w.heap.size (.map (#[].push { key := .int .u8 1, val := (.func (.func 73) #[] #[]), born := 0 }) (0 + 1)) = w1 at *
  have hb2 : (w1.putObj w.heap.size (.map ((#[].push { key := .int .u8 1, val := (.func (.func 73) #[] #[]), born := 0 }).push { key := .int .u8 2, val := (.func (.func 74) #[] #[]), born := 0 + 1 }) (0 + 1 + 1))).heap[w.heap.size]? = _ := World.putObj_heap_same hs1
  have hs2 : w.heap.size < (w1.putObj w.heap.size (.map ((#[].push { key := .int .u8 1, val := (.func (.func 73) #[] #[]), born := 0 }).push { key := .int .u8 2, val := (.func (.func 74) #[] #[]), born := 0 + 1 }) (0 + 1 + 1))).heap.size := by simpa [World.putObj] using hs1
  have q2 := bput q1 (Nat.le_refl _) (.map ((#[].push { key := .int .u8 1, val := (.func (.func 73) #[] #[]), born := 0 }).push { key := .int .u8 2, val := (.func (.func 74) #[] #[]), born := 0 + 1 }) (0 + 1 + 1))
  have i3 := kinds_insert _ w.heap.size _ _ 3 (.func (.func 75) #[] #[]) hb2 rfl
  generalize w1.putObj w.heap.size (.map ((#[].push { key := .int .u8 1, val := (.func (.func 73) #[] #[]), born := 0 }).push { key := .int .u8 2, val := (.func (.func 74) #[] #[]), born := 0 + 1 }) (0 + 1 + 1)) = w2 at *
  have hb3 : (w2.putObj w.heap.size (.map (((#[].push { key := .int .u8 1, val := (.func (.func 73) #[] #[]), born := 0 }).push { key := .int .u8 2, val := (.func (.func 74) #[] #[]), born := 0 + 1 }).push { key := .int .u8 3, val := (.func (.func 75) #[] #[]), born := 0 + 1 + 1 }) (0 + 1 + 1 + 1))).heap[w.heap.size]? = _ := World.putObj_heap_same hs2
  have hs3 : w.heap.size < (w2.putObj w.heap.size (.map (((#[].push { key := .int .u8 1, val := (.func (.func 73) #[] #[]), born := 0 }).push { key := .int .u8 2, val := (.func (.func 74) #[] #[]), born := 0 + 1 }).push { key := .int .u8 3, val := (.func (.func 75) #[] #[]), born := 0 + 1 + 1 }) (0 + 1 + 1 + 1))).heap.size := by simpa [World.putObj] using hs2
  have q3 := bput q2 (Nat.le_refl _) (.map (((#[].push { key := .int .u8 1, val := (.func (.func 73) #[] #[]), born := 0 }).push { key := .int .u8 2, val := (.func (.func 74) #[] #[]), born := 0 + 1 }).push { key := .int .u8 3, val := (.func (.func 75) #[] #[]), born := 0 + 1 + 1 }) (0 + 1 + 1 + 1))
  have i4 := kinds_insert _ w.heap.size _ _ 4 (.func (.func 76) #[] #[]) hb3 rfl
  generalize w2.putObj w.heap.size (.map (((#[].push { key := .int .u8 1, val := (.func (.func 73) #[] #[]), born := 0 }).push { key := .int .u8 2, val := (.func (.func 74) #[] #[]), born := 0 + 1 }).push { key := .int .u8 3, val := (.func (.func 75) #[] #[]), born := 0 + 1 + 1 }) (0 + 1 + 1 + 1)) = w3 at *
  have hb4 : (w3.putObj w.heap.size (.map ((((#[].push { key := .int .u8 1, val := (.func (.func 73) #[] #[]), born := 0 }).push { key := .int .u8 2, val := (.func (.func 74) #[] #[]), born := 0 + 1 }).push { key := .int .u8 3, val := (.func (.func 75) #[] #[]), born := 0 + 1 + 1 }).push { key := .int .u8 4, val := (.func (.func 76) #[] #[]), born := 0 + 1 + 1 + 1 }) (0 + 1 + 1 + 1 + 1))).heap[w.heap.size]? = _ := World.putObj_heap_same hs3
  have hs4 : w.heap.size < (w3.putObj w.heap.size (.map ((((#[].push { key := .int .u8 1, val := (.func (.func 73) #[] #[]), born := 0 }).push { key := .int .u8 2, val := (.func (.func 74) #[] #[]), born := 0 + 1 }).push { key := .int .u8 3, val := (.func (.func 75) #[] #[]), born := 0 + 1 + 1 }).push { key := .int .u8 4, val := (.func (.func 76) #[] #[]), born := 0 + 1 + 1 + 1 }) (0 + 1 + 1 + 1 + 1))).heap.size := by simpa [World.putObj] using hs3
  have q4 := bput q3 (Nat.le_refl _) (.map ((((#[].push { key := .int .u8 1, val := (.func (.func 73) #[] #[]), born := 0 }).push { key := .int .u8 2, val := (.func (.func 74) #[] #[]), born := 0 + 1 }).push { key := .int .u8 3, val := (.func (.func 75) #[] #[]), born := 0 + 1 + 1 }).push { key := .int .u8 4, val := (.func (.func 76) #[] #[]), born := 0 + 1 + 1 + 1 }) (0 + 1 + 1 + 1 + 1))
  have i5 := kinds_insert _ w.heap.size _ _ 5 (.func (.func 77) #[] #[]) hb4 rfl
  generalize w3.putObj w.heap.size (.map ((((#[].push { key := .int .u8 1, val := (.func (.func 73) #[] #[]), born := 0 }).push { key := .int .u8 2, val := (.func (.func 74) #[] #[]), born := 0 + 1 }).push { key := .int .u8 3, val := (.func (.func 75) #[] #[]), born := 0 + 1 + 1 }).push { key := .int .u8 4, val := (.func (.func 76) #[] #[]), born := 0 + 1 + 1 + 1 }) (0 + 1 + 1 + 1 + 1)) = w4 at *
  have hb5 : (w4.putObj w.heap.size (.map (((((#[].push { key := .int .u8 1, val := (.func (.func 73) #[] #[]), born := 0 }).push { key := .int .u8 2, val := (.func (.func 74) #[] #[]), born := 0 + 1 }).push { key := .int .u8 3, val := (.func (.func 75) #[] #[]), born := 0 + 1 + 1 }).push { key := .int .u8 4, val := (.func (.func 76) #[] #[]), born := 0 + 1 + 1 + 1 }).push { key := .int .u8 5, val := (.func (.func 77) #[] #[]), born := 0 + 1 + 1 + 1 + 1 }) (0 + 1 + 1 + 1 + 1 + 1))).heap[w.heap.size]? = _ := World.putObj_heap_same hs4
  have q5 := bput q4 (Nat.le_refl _) (.map (((((#[].push { key := .int .u8 1, val := (.func (.func 73) #[] #[]), born := 0 }).push { key := .int .u8 2, val := (.func (.func 74) #[] #[]), born := 0 + 1 }).push { key := .int .u8 3, val := (.func (.func 75) #[] #[]), born := 0 + 1 + 1 }).push { key := .int .u8 4, val := (.func (.func 76) #[] #[]), born := 0 + 1 + 1 + 1 }).push { key := .int .u8 5, val := (.func (.func 77) #[] #[]), born := 0 + 1 + 1 + 1 + 1 }) (0 + 1 + 1 + 1 + 1 + 1))
  have HW : Hid (Kinded (w4.putObj w.heap.size (.map (((((#[].push { key := .int .u8 1, val := (.func (.func 73) #[] #[]), born := 0 }).push { key := .int .u8 2, val := (.func (.func 74) #[] #[]), born := 0 + 1 }).push { key := .int .u8 3, val := (.func (.func 75) #[] #[]), born := 0 + 1 + 1 }).push { key := .int .u8 4, val := (.func (.func 76) #[] #[]), born := 0 + 1 + 1 + 1 }).push { key := .int .u8 5, val := (.func (.func 77) #[] #[]), born := 0 + 1 + 1 + 1 + 1 }) (0 + 1 + 1 + 1 + 1 + 1))) w.heap.size) := Lib.hid hb5
  generalize w4.putObj w.heap.size (.map (((((#[].push { key := .int .u8 1, val := (.func (.func 73) #[] #[]), born := 0 }).push { key := .int .u8 2, val := (.func (.func 74) #[] #[]), born := 0 + 1 }).push { key := .int .u8 3, val := (.func (.func 75) #[] #[]), born := 0 + 1 + 1 }).push { key := .int .u8 4, val := (.func (.func 76) #[] #[]), born := 0 + 1 + 1 + 1 }).push { key := .int .u8 5, val := (.func (.func 77) #[] #[]), born := 0 + 1 + 1 + 1 + 1 }) (0 + 1 + 1 + 1 + 1 + 1)) = w5 at *
  clear hb0 hb1 hb2 hb3 hb4 hb5 hs0 hs1 hs2 hs3 hs4 q0 q1 q2 q3 q4
  have Q5 := Lib.hid q5
  clear q5
  go_enter Tryd.func58, Tryd.ntmps58
  go_wp2
  go_ret
  exact ⟨rfl, HW.out, Q5.out⟩
end Go.Proofs.YthlcjjhfkldmhaaDoor.G
end
section
namespace Go.Proofs.YthlcjjhfkldmhaaDoor.G
open Go.RowKit Go.Lib Go.Proofs.YthlcjjhfkldmhaaDoorW.PrintWords Go.Proofs.YthlcjjhfkldmhaaDoorW.PrintLast
set_option linter.unusedVariables false

/-- The number of the operation that a kind names. -/
def kindN (k : Int) : Nat := if k = 1 then 73 else if k = 2 then 74 else if k = 3 then 75 else if k = 4 then 76 else 77
theorem kindF_N (k : Int) : kindF k = .func (.func (kindN k)) #[] #[] := by
  unfold kindF kindN
  repeat' split
  all_goals rfl
theorem op_fs (k : Int) (h1 : 1 ≤ k) (h5 : k ≤ 5) (w : World) (g r : Nat) (O : Nat → Prop) (tb : Option Nat) (f : FsV) (x : Req) (Ap : Option Addr) (cp : Nat) (Ad : Option Addr) (cd : Nat) (hfs : FsAt w g O tb f) (hreq : w.heap[r]? = some (.cells #[.slice Ap x.p.length cp, .slice Ad x.dest.length cd, .string x.data, .int .u8 0, .int .i64 0] 94 (0, 0))) (hrg : r ≠ g) (hrO : ¬ O r) (hbt : f.tree.bulk ≤ 100000000) (hp : Kd.C Kd.string w Ap x.p.length x.p) (hcp : x.p.length ≤ cp) (hps : P.sumP x.p ≤ 1024) (hpd : Kd.C Kd.string w Ad x.dest.length x.dest) (hcd : x.dest.length ≤ cd) (hpt : P.sumP x.dest ≤ 1024) (hdb : x.data.size ≤ 100000000) :
    Calls Tryd.prog (kindN k) #[.pointer (some ⟨g, 0, none⟩), .pointer (some ⟨r, 0, none⟩)] w fun e w' => OpPost w g r O tb f x Ap cp Ad cd (opR k f.tree x) e w' := by
  have hk : k = 1 ∨ k = 2 ∨ k = 3 ∨ k = 4 ∨ k = 5 := by omega
  rcases hk with rfl | rfl | rfl | rfl | rfl
  · exact lstat_fs w g r O tb f x Ap cp Ad cd hfs hreq hrg hrO hbt hp hcp hps hdb
  · exact read_fs w g r O tb f x Ap cp Ad cd hfs hreq hrg hrO hbt hp hcp hps hdb
  · exact create_fs w g r O tb f x Ap cp Ad cd hfs hreq hrg hrO hbt hp hcp hps hdb
  · exact append_fs w g r O tb f x Ap cp Ad cd hfs hreq hrg hrO hbt hp hcp hps hdb
  · exact rename_fs w g r O tb f x Ap cp Ad cd hfs hreq hrg hrO hbt hp hcp hps hpd hcd hpt hdb
end Go.Proofs.YthlcjjhfkldmhaaDoor.G
end
