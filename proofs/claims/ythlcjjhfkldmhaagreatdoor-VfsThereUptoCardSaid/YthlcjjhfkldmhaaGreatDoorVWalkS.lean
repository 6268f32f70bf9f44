import Derived.Test.YthlcjjhfkldmhaaGreatDoorTStore
import Derived.Test.YthlcjjhfkldmhaaGreatDoorTShown
import Derived.Test.YthlcjjhfkldmhaaGreatDoorPNormal
set_option linter.unusedVariables false
set_option linter.unusedSimpArgs false
namespace Go.Proofs.YthlcjjhfkldmhaaGreatDoor.G
open Go.RowKit Go.Lib Go.Proofs.YthlcjjhfkldmhaaGreatDoorW.PrintWords Go.Proofs.YthlcjjhfkldmhaaGreatDoorW.PrintLast
set_option linter.unusedVariables false
abbrev WR:Type:=List ByteArray×File×Bool×Int
def badW (k:Int):WR:=([],zeroF,false,k)
def walkIn (last:Bool) (follow:Option (List ByteArray→WR)):List ByteArray→List ByteArray→File→WR
 | [],done,here=>(done,here,true,0)
 | n :: rest,done,here=>if here.kind=1 then (match here.files.find? (nameIs n) with
   | none=>if rest.length=0 then (done++[n],zeroF,false,0) else badW 31
   | some x=>if x.kind=3∧¬ (rest.length=0∧last=false) then (match follow with
     | none=>badW 41
     | some g=>if (P.normR done x.data).2.2=0 then (if ((P.normR done x.data).1++rest).length≤64 then g ((P.normR done x.data).1++rest) else badW 3) else badW (P.normR done x.data).2.2)
    else walkIn last follow rest (done++[n]) x) else badW 32
def followK (t:File) (last:Bool):Nat→Option (List ByteArray→WR)
 | 0=>none
 | k+1=>some fun todo=>walkIn last (followK t last k) todo [] t
def walkR (t:File) (p:List ByteArray) (last:Bool):WR:=if p.length≤64 then walkIn last (followK t last 40) p [] t else badW 3
def realR (t:File) (p:List ByteArray) (last:Bool):List ByteArray×Int :=
 if rightT t=true then (if P.rightB p=true then ((walkR t p last).1,(walkR t p last).2.2.2) else ([],20)) else ([],30)
end Go.Proofs.YthlcjjhfkldmhaaGreatDoor.G
