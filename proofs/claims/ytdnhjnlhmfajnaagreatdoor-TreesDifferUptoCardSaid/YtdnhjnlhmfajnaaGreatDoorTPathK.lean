import Derived.Test.YtdnhjnlhmfajnaaGreatDoorTFile
import Derived.Lib.SliceRun
import Derived.BigQuiet
import Derived.IntWalk
set_option linter.unusedVariables false
set_option linter.unusedSimpArgs false
namespace Go.Proofs.YtdnhjnlhmfajnaaGreatDoor.G
open Go.RowKit Go.Lib Go.Shelf Go.Proofs.YtdnhjnlhmfajnaaGreatDoorW.PrintWords Go.Proofs.YtdnhjnlhmfajnaaGreatDoorW.PrintLast
set_option linter.unusedVariables false
abbrev PathK:Kd (List ByteArray):=Kd.slice 9 Kd.string
theorem cmp_self (x:List ByteArray):cmpP x x=0:=cmp_zero.2 rfl
theorem cmp_lt_trans {a b c:List ByteArray} (h1:cmpP a b<0) (h2:cmpP b c≤0):cmpP a c<0:=by
 have h3:=cmp_trans (a:=a) (b:=b) (c:=c) (by omega) h2
 rcases Int.lt_or_le (cmpP a c) 0 with h | h
 ·exact h
 ·have h4:cmpP a c=0:=by omega
  have h5:=cmp_zero.1 h4
  subst h5
  have:=cmp_anti a b
  omega
def sortedP:List (List ByteArray)→Prop:=List.Pairwise fun x y=>cmpP x y≤0
end Go.Proofs.YtdnhjnlhmfajnaaGreatDoor.G
