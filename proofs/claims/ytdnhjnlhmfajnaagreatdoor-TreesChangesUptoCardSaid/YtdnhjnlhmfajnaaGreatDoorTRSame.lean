import Derived.Test.YtdnhjnlhmfajnaaGreatDoorTFile
import Derived.Deep.RegionWith
set_option linter.unusedVariables false
set_option linter.unusedSimpArgs false
namespace Go.Proofs.YtdnhjnlhmfajnaaGreatDoor.G
open Go.RowKit Go.Lib Go.Proofs.YtdnhjnlhmfajnaaGreatDoorW.PrintWords Go.Proofs.YtdnhjnlhmfajnaaGreatDoorW.PrintLast
set_option linter.unusedVariables false
open Classical in
noncomputable def sameT (a b:File):Bool:=decide (a=b)
theorem sameT_self (a:File):sameT a a=true:=by simp [sameT]
theorem sameT_ne {a b:File} (h:a≠b):sameT a b=false:=by simp [sameT,h]
theorem sameT_eq {a b:File} (h:sameT a b=true):a=b:=by simpa [sameT] using h
theorem two_boxes (w:World) (cs ds:Array Value) (t u:TypeId):((w.alloc (.cells cs t)).alloc (.cells ds u)).heap[w.heap.size]? = some (.cells cs t (0,0))∧((w.alloc (.cells cs t)).alloc (.cells ds u)).heap[w.heap.size+1]? = some (.cells ds u (0,0)):=by
 refine ⟨(Below.heap_alloc _ _ _ (by simp)).trans (blk_new w _),?_⟩
 have h:=blk_new (w.alloc (.cells cs t)) (.cells ds u)
 rwa [show (w.alloc (.cells cs t)).heap.size=w.heap.size+1 by simp] at h
theorem cell_of {W:World} {g j:Nat} {cs:Array Value} {t:TypeId} {v:Value} (h:W.heap[g]? = some (.cells cs t (0,0))) (hv:cs[j]? = some v):W.cell? ⟨g,j,none⟩=some v:=by simp [World.cell?,h,hv]
def fileV (a:File) (A:Option Addr) (c:Nat):Value:=.agg (fc a A c)
end Go.Proofs.YtdnhjnlhmfajnaaGreatDoor.G
