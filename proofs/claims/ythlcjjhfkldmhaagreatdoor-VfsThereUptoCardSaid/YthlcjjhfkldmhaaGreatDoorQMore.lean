import Derived.Test.YthlcjjhfkldmhaaGreatDoorQWords
import Derived.Test.YthlcjjhfkldmhaaGreatDoorQLast
import Derived.Test.YthlcjjhfkldmhaaGreatDoorQApart
import Derived.Test.YthlcjjhfkldmhaaGreatDoorQFoot
import Derived.Test.YthlcjjhfkldmhaaGreatDoorQNEv
set_option linter.unusedVariables false
set_option linter.unusedSimpArgs false
namespace Go.Proofs.YthlcjjhfkldmhaaGreatDoorW.PrintMore
open Go.RowKit Go.Proofs.YthlcjjhfkldmhaaGreatDoorW.PrintWords
namespace Kd
open Go.Proofs.YthlcjjhfkldmhaaGreatDoorW.PrintWords.Kd
end Kd
namespace Kd
open Go.Proofs.YthlcjjhfkldmhaaGreatDoorW.PrintWords.Kd
section
variable {α:Type} {d:Kd α} {e base g N:Nat} {ok:Nat→Prop} {W w1:World} {u v:Value} {xs:List α}
end
end Kd
end Go.Proofs.YthlcjjhfkldmhaaGreatDoorW.PrintMore
namespace Go.Proofs.YthlcjjhfkldmhaaGreatDoorW.PrintWords
open Go.RowKit
section
variable {P:Program} {ops:Array Oper} {rest:List Oper} {o:Oper} {a:Act} {Q:Exit→Act→World→Prop} {W:World}
end
namespace Kd
section
variable {α:Type} {d:Kd α} {e base:Nat} {ok:Nat→Prop} {W w1:World} {v:Value} {xs:List α}
end
section
variable {α:Type} {d:Kd α} {e base g n cap:Nat} {ok oki okp:Nat→Prop} {W:World} {xs:List α} {i:Int} {c:List Value}
end
section
variable {α:Type} {d:Kd α} {e base b b' g N:Nat} {ok ok1:Nat→Prop} {W W2 w1:World} {u v:Value} {xs ys:List α} {S:Nat→Prop}
end
end Kd
end Go.Proofs.YthlcjjhfkldmhaaGreatDoorW.PrintWords
namespace Go.Proofs.YthlcjjhfkldmhaaGreatDoorW.PrintWords
open Go.RowKit
namespace Kd
def V {α:Type} (d:Kd α) (_e:Nat) (W:World) (_base:Nat) (ok:Nat→Prop) (v:Value) (xs:List α):Prop:=∃ A c,v=.slice A xs.length c∧xs.length≤c∧F d W ok A xs.length xs
section
variable {α β:Type} {d:Kd α} {e base base' n m c g N' lo hi:Nat} {ok ok' S:Nat→Prop} {w W w1:World} {A:Option Addr} {ad:Addr} {u v v1:Value} {xs:List α}
theorem F_cut (h:F d W ok A xs.length xs) (hm:m≤xs.length) (hc:xs.length≤c):F d W ok (if c=m then A else A.map (·.add (m * d.sz))) (xs.drop m).length (xs.drop m):=F_imp h (fun _ hC=>C_drop hC hm hc)
end
end Kd
end Go.Proofs.YthlcjjhfkldmhaaGreatDoorW.PrintWords
