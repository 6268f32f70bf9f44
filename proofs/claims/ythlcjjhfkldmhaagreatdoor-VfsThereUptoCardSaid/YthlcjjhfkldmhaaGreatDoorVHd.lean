import Derived.Test.YthlcjjhfkldmhaaGreatDoorIdx
import Derived.Test.YthlcjjhfkldmhaaGreatDoorQWords
import Derived.Test.YthlcjjhfkldmhaaGreatDoorQMore
set_option linter.unusedVariables false
set_option linter.unusedSimpArgs false
section
namespace Go.Proofs.YthlcjjhfkldmhaaGreatDoor.G
open Go.RowKit Go.Lib Go.Proofs.YthlcjjhfkldmhaaGreatDoorW.PrintWords
set_option linter.unusedVariables false
def Hd (P:World→Prop) (w:World):Prop:=∀ W,Below w.heap.size w W→P W
theorem Hd.now {P:World→Prop} {w:World} (h:Hd P w):P w:=h w (Below.refl _ _)
theorem Hd.mv {P:World→Prop} {w w':World} (h:Hd P w) (hb:Below w.heap.size w w'):Hd P w':=fun W hW=>h W (hb.trans (hW.mono hb.size))
theorem Hd.and {P Q:World→Prop} {w:World} (h:Hd P w) (k:Hd Q w):Hd (fun W=>Q W∧P W) w:=fun W hW=>⟨k W hW,h W hW⟩
theorem Hd.box {w:World} {g:Nat} {o:Obj} (h:w.heap[g]? = some o):Hd (fun W=>W.heap[g]? = some o) w:=fun W hW=>(hW.block g (by
 rcases Nat.lt_or_ge g w.heap.size with hg | hg
 ·exact hg
 ·rw [Array.getElem?_eq_none hg] at h;cases h)).trans h
theorem Hd.reads {α:Type} {d:Kd α} {w:World} {A:Option Addr} {n:Nat} {xs:List α} (h:d.C w A n xs):Hd (fun W=>d.C W A n xs) w:=fun W hW=>Kd.C_below h hW
theorem Hd.rows {α:Type} {d:Kd α} {e:Nat} {w:World} {base:Nat} {ok:Nat→Prop} {v:Value} {xs:List α} (h:d.R e w base ok v xs):Hd (fun W=>d.R e W base ok v xs) w:=fun W hW=>Kd.R_below h hW
theorem Hd.base {B:Nat} {a w:World} (h:Below B a w) (hB:B≤w.heap.size):Hd (fun W=>Below B a W) w:=fun W hW=>h.trans (hW.mono hB)
end Go.Proofs.YthlcjjhfkldmhaaGreatDoor.G
end
section
namespace Go.Proofs.YthlcjjhfkldmhaaGreatDoor.G
open Go.RowKit Go.Lib Go.Proofs.YthlcjjhfkldmhaaGreatDoorW.PrintWords
theorem Hd.F {α:Type} {d:Kd α} {w:World} {ok:Nat→Prop} {A:Option Addr} {n:Nat} {xs:List α} (h:Kd.F d w ok A n xs):Hd (fun W=>Kd.F d W ok A n xs) w:=fun _ hW=>Kd.F_below h hW
theorem Hd.imp {P Q:World→Prop} {w:World} (h:Hd P w) (hi:∀ W,P W→Q W):Hd Q w:=fun W hW=>hi W (h W hW)
def Iv (lo hi:Nat) (w:World) (P:World→Prop):Prop:=∀ W:World,(∀ k,lo≤k→k<hi→W.heap[k]? = w.heap[k]?)→P W
theorem Iv.now {lo hi:Nat} {w:World} {P:World→Prop} (h:Iv lo hi w P):P w:=h w fun _ _ _=>rfl
theorem Iv.mv {lo hi:Nat} {w w':World} {P:World→Prop} (h:Iv lo hi w P) (hk:∀ k,lo≤k→k<hi→w'.heap[k]? = w.heap[k]?):Iv lo hi w' P:=fun W hW=>h W fun k h1 h2=>(hW k h1 h2).trans (hk k h1 h2)
theorem Iv.of_R {α:Type} {d:Kd α} {e:Nat} {w:World} {base:Nat} {ok:Nat→Prop} {A:Option Addr} {c:Nat} {xs:List α} (h:d.R e w base ok (.slice A xs.length c) xs):Iv base w.heap.size w (fun W=>d.C W A xs.length xs):=fun W hW =>
 (Kd.R_reads' (Kd.R_move (Kd.R_bound h) fun k hk=>hW k hk.2.1 hk.2.2.1)).2.2
theorem Iv.low {lo lo' hi:Nat} {w:World} {P:World→Prop} (h:Iv lo hi w P) (hl:lo'≤lo):Iv lo' hi w P:=fun W hW=>h W fun k h1 h2=>hW k (Nat.le_trans hl h1) h2
theorem Iv.all {w:World} {P:World→Prop} (lo hi:Nat) (h:∀ W,P W):Iv lo hi w P:=fun W _=>h W
end Go.Proofs.YthlcjjhfkldmhaaGreatDoor.G
end
