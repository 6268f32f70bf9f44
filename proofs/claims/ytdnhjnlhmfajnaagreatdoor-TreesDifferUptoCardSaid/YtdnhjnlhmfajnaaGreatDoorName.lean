import Derived.Test.YtdnhjnlhmfajnaaGreatDoorIdx
import Derived.Test.YtdnhjnlhmfajnaaGreatDoorQWords
set_option linter.unusedVariables false
set_option linter.unusedSimpArgs false
namespace Go.Proofs.YtdnhjnlhmfajnaaGreatDoor.G
open Go.RowKit Go.Lib Go.Proofs.YtdnhjnlhmfajnaaGreatDoorW.PrintWords
set_option linter.unusedVariables false
def nameB (l:List UInt8):Bool := !l.isEmpty && decide (l.length≤255) && l != [46] && l != [46,46] && !(l.any fun b=>b == 47 || b == 0)
def paths_Name.f (a0:ByteArray):Option (Bool):=some (nameB a0.data.toList)
set_option maxHeartbeats 4000000 in
theorem name_no (a0:ByteArray) (w:World) (b1 b2 b3 b4:Bool) (e1:a0.toList.isEmpty=b1) (e2:decide ((a0.size:Int)≤255)=b2) (e3:(a0.toList == [46])=b3) (e3':(a0.toList != [46]) = !b3) (e4:(a0.toList == [46,46])=b4) (e4':(a0.toList != [46,46]) = !b4)
  (hb:(b1 || !b2 || b3 || b4)=true) :
  Calls Tryz.prog 91 #[.string a0] w fun e w'=>e=.returned (.bool false)∧Below w.heap.size w w':=by
 cases b1
 ·cases b2
  ·go_enter Tryz.func91,Tryz.ntmps91
   go_wp2
   go_ret
   exact ⟨rfl,Below.refl _ _⟩
  ·cases b3
   ·cases b4
    ·cases hb
    ·go_enter Tryz.func91,Tryz.ntmps91
     go_wp2
     go_ret
     exact ⟨rfl,Below.refl _ _⟩
   ·clear e4 e4'
    go_enter Tryz.func91,Tryz.ntmps91
    go_wp2
    go_ret
    exact ⟨rfl,Below.refl _ _⟩
 ·clear e2 e3 e3' e4 e4'
  go_enter Tryz.func91,Tryz.ntmps91
  go_wp2
  go_ret
  exact ⟨rfl,Below.refl _ _⟩
set_option maxHeartbeats 4000000 in
theorem name_yes (a0:ByteArray) (w:World) (hs:a0.size<4294967281) (e1:a0.toList.isEmpty=false) (e2:decide ((a0.size:Int)≤255)=true) (e3:(a0.toList == [46])=false) (e3':(a0.toList != [46])=true) (e4:(a0.toList == [46,46])=false) (e4':(a0.toList != [46,46])=true) :
  Calls Tryz.prog 91 #[.string a0] w fun e w'=>e=.returned (.bool (!(a0.data.toList.any fun b=>b == 47 || b == 0)))∧Below w.heap.size w w':=by
 have hc:=fun W=>containsAny_two a0 W hs
 generalize (a0.data.toList.any fun b=>b == 47 || b == 0)=c at *
 clear hs
 have HC:=Lib.hid hc
 clear hc
 unfold two at HC
 go_enter Tryz.func91,Tryz.ntmps91
 go_wp2_with (go_at_call 121;refine (HC.out _).mono ?_;rintro e w' ⟨rfl,hb⟩)
 go_ret
 exact ⟨rfl,hb⟩
theorem paths_Name.calls (a0:ByteArray) (r:Bool) (w:World) (h:paths_Name.f a0=some r) :
  Calls Tryz.prog 91 #[.string a0] w fun e w'=>e=.returned (.bool r)∧Below w.heap.size w w':=by
 obtain rfl:=Option.some.inj h
 clear h
 have hl:a0.toList=a0.data.toList:=Lib.toList_data a0
 have hn:a0.data.toList.length=a0.size:=(Lib.size_eq a0).symm
 unfold nameB
 by_cases hb:(a0.toList.isEmpty || !decide ((a0.size:Int)≤255) || (a0.toList == [46]) || (a0.toList == [46,46]))=true
 ·refine (name_no a0 w _ _ _ _ rfl rfl rfl rfl rfl rfl hb).mono fun e w' ⟨he,h⟩=>⟨?_,h⟩
  rw [he]
  rw [hl] at hb
  congr 2
  have e2:decide (a0.data.toList.length≤255)=decide ((a0.size:Int)≤255):=by rw [decide_eq_decide];omega
  rw [e2]
  revert hb
  simp only [bne]
  cases a0.data.toList.isEmpty <;> cases decide ((a0.size:Int)≤255) <;> cases (a0.data.toList == [46]) <;> cases (a0.data.toList == [46,46]) <;> simp
 ·simp only [Bool.or_eq_true,not_or,Bool.not_eq_true,Bool.not_eq_false'] at hb
  obtain ⟨⟨⟨h1,h2⟩,h3⟩,h4⟩:=hb
  have hs:a0.size<4294967281:=by have:=of_decide_eq_true h2;omega
  refine (name_yes a0 w hs h1 h2 h3 (by rw [bne,h3];rfl) h4 (by rw [bne,h4];rfl)).mono fun e w' ⟨he,h⟩=>⟨?_,h⟩
  rw [he]
  rw [hl] at h1 h3 h4
  have e2:decide (a0.data.toList.length≤255)=true:=by rw [← h2,decide_eq_decide];omega
  rw [e2,h1,bne,h3,bne,h4]
  rfl
end Go.Proofs.YtdnhjnlhmfajnaaGreatDoor.G
