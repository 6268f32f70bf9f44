import Derived.Test.YtdnhjnlhmfajnaaGreatDoorTCopy
import Derived.Lib.IndexLaws
set_option linter.unusedVariables false
set_option linter.unusedSimpArgs false
section
namespace Go.Proofs.YtdnhjnlhmfajnaaGreatDoor.G
open Go.RowKit Go.Lib Go.Proofs.YtdnhjnlhmfajnaaGreatDoorW.PrintWords Go.Proofs.YtdnhjnlhmfajnaaGreatDoorW.PrintLast
set_option linter.unusedVariables false
set_option maxHeartbeats 4000000 in
theorem rname_no (a0:ByteArray) (w:World) (b1 b2 b3 b4:Bool) (e1:decide ((a0.size:Int)<1)=b1) (e2:decide (255<(a0.size:Int))=b2) (e3:(a0.toList == [46])=b3) (e4:(a0.toList == [46,46])=b4)
  (hb:(b1 || b2 || b3 || b4)=true) :
  Calls Tryz.prog 97 #[.string a0] w fun e w'=>e=.returned (.bool false)∧w'=w:=by
 cases b1
 ·cases b2
  ·cases b3
   ·cases b4
    ·cases hb
    ·go_enter Tryz.func97,Tryz.ntmps97
     go_wp2
     go_ret
     exact ⟨rfl,rfl⟩
   ·clear e4
    go_enter Tryz.func97,Tryz.ntmps97
    go_wp2
    go_ret
    exact ⟨rfl,rfl⟩
  ·clear e3 e4
   go_enter Tryz.func97,Tryz.ntmps97
   go_wp2
   go_ret
   exact ⟨rfl,rfl⟩
 ·clear e2 e3 e4
  go_enter Tryz.func97,Tryz.ntmps97
  go_wp2
  go_ret
  exact ⟨rfl,rfl⟩
def slashB (b:UInt8):Bool:=b == 47 || b == 0
theorem any_take_succ (s:ByteArray) (k:Nat) (h:k<s.size):(s.data.toList.take (k+1)).any slashB=((s.data.toList.take k).any slashB || slashB s[k]):=by
 have hk:k<s.data.toList.length:=by rw [Array.length_toList];exact h
 rw [List.take_succ_eq_append_getElem hk,List.any_append]
 simp only [List.any_cons,List.any_nil,Bool.or_false]
 rfl
theorem any_of_take {l:List UInt8} {k:Nat} (h:(l.take k).any slashB=true):l.any slashB=true:=by
 rw [← List.take_append_drop k l,List.any_append,h];rfl
set_option maxHeartbeats 4000000 in
theorem rname_yes (a0:ByteArray) (b:Bool) (w:World) (hb:a0.data.toList.any slashB=b) (e1:decide ((a0.size:Int)<1)=false) (e2:decide (255<(a0.size:Int))=false) (e3:(a0.toList == [46])=false) (e4:(a0.toList == [46,46])=false) :
  Calls Tryz.prog 97 #[.string a0] w fun e w'=>e=.returned (.bool (!b))∧w'=w:=by
 have HB:=Lib.hid hb
 clear hb
 have hsz:a0.size≤255:=by have:=of_decide_eq_false e2;omega
 go_enter Tryz.func97,Tryz.ntmps97
 go_wp2
 go_loop [3] (fun i=>∃ k:Nat,k≤a0.size∧i=.int .i64 k∧Hid ((a0.data.toList.take k).any slashB=false)) (fun i=>a0.size - (RowKit.intOf i).toNat)
 case atStart=>exact ⟨0,by omega,rfl,Lib.hid rfl⟩
 case round =>
  obtain ⟨k,hk,rfl,HA⟩:=hrel
  by_cases hlt:k<a0.size
  ·have ht:=any_take_succ a0 k hlt
   rw [HA.out,Bool.false_or] at ht
   obtain ⟨x,hx⟩:∃ x,a0[k]'hlt=x:=⟨_,rfl⟩
   rw [hx] at ht
   have h47:((x.toNat:Int) == 47)=(x == 47):=by
    rw [Bool.eq_iff_iff,beq_iff_eq,beq_iff_eq,← UInt8.toNat_inj]
    constructor
    ·intro h;exact Int.ofNat_inj.1 h
    ·intro h;rw [h];rfl
   have h0:((x.toNat:Int) == 0)=(x == 0):=by
    rw [Bool.eq_iff_iff,beq_iff_eq,beq_iff_eq,← UInt8.toNat_inj]
    constructor
    ·intro h;exact Int.ofNat_inj.1 h
    ·intro h;rw [h];rfl
   unfold slashB at ht
   cases q1:(x == 47)
   ·rw [q1] at h47 ht
    cases q2:(x == 0)
    ·rw [q2] at h0 ht
     have HT:=Lib.hid ht
     clear ht HA q1 q2
     go_wp2
     go_round
     case rel=>exact ⟨k+1,by omega,by go_num,Lib.hid HT.out⟩
     case measure=>simp [RowKit.intOf];omega
    ·rw [q2] at h0 ht
     have HT:=Lib.hid (any_of_take (l:=a0.data.toList) (k:=k+1) ht)
     clear ht HA q1 q2
     go_wp2
     go_ret
     exact ⟨by rw [show b=true from HB.out.symm.trans HT.out];rfl,rfl⟩
   ·rw [q1] at h47 ht
    have HT:=Lib.hid (any_of_take (l:=a0.data.toList) (k:=k+1) ht)
    clear ht HA q1 h0
    go_wp2
    go_ret
    exact ⟨by rw [show b=true from HB.out.symm.trans HT.out];rfl,rfl⟩
  ·obtain rfl:k=a0.size:=by omega
   go_wp2
   go_ret
   refine ⟨?_,rfl⟩
   have:=HA.out
   rw [List.take_of_length_le (by rw [Array.length_toList];exact Nat.le_refl _)] at this
   rw [show b=false from HB.out.symm.trans this];rfl
theorem rname_calls (a0:ByteArray) (w:World) :
  Calls Tryz.prog 97 #[.string a0] w fun e w'=>e=.returned (.bool (nameB a0.data.toList))∧w'=w:=by
 have hl:a0.toList=a0.data.toList:=Lib.toList_data a0
 have hn:a0.data.toList.length=a0.size:=(Lib.size_eq a0).symm
 have hem:a0.data.toList.isEmpty=decide ((a0.size:Int)<1):=by
  cases h:a0.data.toList with
  | nil=>rw [h] at hn;simp at hn;simp [← hn]
  | cons x t=>rw [h] at hn;simp at hn ⊢;omega
 have h255:decide (a0.data.toList.length≤255) = !decide (255<(a0.size:Int)):=by rw [hn,← decide_not,decide_eq_decide];omega
 unfold nameB
 rw [hem,h255,bne,bne,← hl]
 by_cases hb:(decide ((a0.size:Int)<1) || decide (255<(a0.size:Int)) || (a0.toList == [46]) || (a0.toList == [46,46]))=true
 ·refine (rname_no a0 w _ _ _ _ rfl rfl rfl rfl hb).mono fun e w' ⟨he,h⟩=>⟨?_,h⟩
  rw [he]
  congr 2
  revert hb
  cases decide ((a0.size:Int)<1) <;> cases decide (255<(a0.size:Int)) <;> cases (a0.toList == [46]) <;> cases (a0.toList == [46,46]) <;> simp
 ·simp only [Bool.or_eq_true,not_or,Bool.not_eq_true] at hb
  obtain ⟨⟨⟨h1,h2⟩,h3⟩,h4⟩:=hb
  refine (rname_yes a0 _ w rfl h1 h2 h3 h4).mono fun e w' ⟨he,h⟩=>⟨?_,h⟩
  rw [he,h1,h2,h3,h4,hl]
  rfl
theorem name_calls (s:ByteArray) (w:World):Calls Tryz.prog 91 #[.string s] w fun e w'=>e=.returned (.bool (nameB s.data.toList))∧Below w.heap.size w w':=paths_Name.calls s _ w rfl
def zeroB (b:UInt8):Bool:=b == 0
def targetB (s:ByteArray):Bool:=decide (1≤s.size) && decide (s.size≤1024) && !(s.data.toList.any zeroB)
theorem zany_take_succ (s:ByteArray) (k:Nat) (h:k<s.size):(s.data.toList.take (k+1)).any zeroB=((s.data.toList.take k).any zeroB || zeroB s[k]):=by
 have hk:k<s.data.toList.length:=by rw [Array.length_toList];exact h
 rw [List.take_succ_eq_append_getElem hk,List.any_append]
 simp only [List.any_cons,List.any_nil,Bool.or_false]
 rfl
theorem zany_of_take {l:List UInt8} {k:Nat} (h:(l.take k).any zeroB=true):l.any zeroB=true:=by
 rw [← List.take_append_drop k l,List.any_append,h];rfl
theorem index_zero (l:List UInt8):decide (Lib.indexByte l 0<0) = !(l.any zeroB):=by
 have hge:=Lib.indexByte_ge l 0
 by_cases h:l.any zeroB=true
 ·rw [h]
  obtain ⟨x,hx,h0⟩:=List.any_eq_true.1 h
  have h0:x=0:=by simpa [zeroB] using h0
  subst h0
  obtain ⟨k,hk⟩:=List.mem_iff_getElem?.1 hx
  have:¬ Lib.indexByte l 0<0:=fun hlt=>Lib.indexByte_none (show Lib.indexByte l 0 = -1 by omega) k hk
  simp [this]
 ·have h':l.any zeroB=false:=by simpa using h
  rw [h']
  have:Lib.indexByte l 0<0:=by
   apply Classical.byContradiction
   intro hn
   obtain ⟨o,ho⟩:∃ o:Nat,Lib.indexByte l 0=o:=⟨(Lib.indexByte l 0).toNat,by omega⟩
   exact h (List.any_eq_true.2 ⟨0,List.mem_iff_getElem?.2 ⟨o,(Lib.indexByte_some ho).1⟩,rfl⟩)
  simp [this]
set_option maxHeartbeats 4000000 in
theorem target_calls (s:ByteArray) (w:World):Calls Tryz.prog 52 #[.string s] w fun e w'=>e=.returned (.bool (targetB s))∧w'=w:=by
 have HI:=Lib.hid (fun W=>index_byte s 0 W)
 have hz:=index_zero s.data.toList
 change decide (Lib.indexByte s.data.toList (0:Int).toNat.toUInt8<0)=_ at hz
 unfold targetB
 rw [← hz]
 clear hz
 generalize Lib.indexByte s.data.toList (0:Int).toNat.toUInt8=r at *
 by_cases h1:1≤s.size
 ·by_cases h2:s.size≤1024
  ·have g1:decide ((s.size:Int) ≥ 1)=true:=decide_eq_true (by omega)
   have g2:decide ((s.size:Int)≤1024)=true:=decide_eq_true (by omega)
   have g3:(1:Int)≤(s.size:Int):=by omega
   have g4:(s.size:Int)≤1024:=by omega
   rw [decide_eq_true h1,decide_eq_true h2]
   clear h1 h2
   go_enter Tryz.func52,Tryz.ntmps52
   go_wp2_with fail
   refine (HI.out _).mono ?_
   rintro e w1 ⟨rfl,rfl⟩
   go_wp2_with fail
   go_ret
   exact ⟨by first | rfl | simp,rfl⟩
  ·have g1:decide ((s.size:Int) ≥ 1)=true:=decide_eq_true (by omega)
   have g2:decide ((s.size:Int)≤1024)=false:=decide_eq_false (by omega)
   have g3:(1:Int)≤(s.size:Int):=by omega
   have g4:¬ (s.size:Int)≤1024:=by omega
   rw [decide_eq_false h2,Bool.and_false,Bool.false_and]
   clear h1 h2 HI
   go_enter Tryz.func52,Tryz.ntmps52
   go_wp2_with fail
   go_ret
   exact ⟨rfl,rfl⟩
 ·have g1:decide ((s.size:Int) ≥ 1)=false:=decide_eq_false (by omega)
  have g3:¬ (1:Int)≤(s.size:Int):=by omega
  rw [decide_eq_false h1,Bool.false_and,Bool.false_and]
  clear h1 HI
  go_enter Tryz.func52,Tryz.ntmps52
  go_wp2_with fail
  go_ret
  exact ⟨rfl,rfl⟩
set_option maxHeartbeats 4000000 in
theorem rtarget_calls (s:ByteArray) (w:World):Calls Tryz.prog 57 #[.string s] w fun e w'=>e=.returned (.bool (targetB s))∧w'=w:=by
 by_cases h1:1≤s.size
 ·have g1:decide ((s.size:Int)<1)=false:=decide_eq_false (by omega)
  have g3:¬ (s.size:Int)<1:=by omega
  by_cases h2:s.size≤1024
  ·have g2:decide ((s.size:Int) > 1024)=false:=decide_eq_false (by omega)
   have g4:¬ 1024<(s.size:Int):=by omega
   have g5:decide (1024<(s.size:Int))=false:=decide_eq_false (by omega)
   obtain ⟨b,hb⟩:∃ b,s.data.toList.any zeroB=b:=⟨_,rfl⟩
   unfold targetB
   rw [decide_eq_true h1,decide_eq_true h2,hb]
   have HB:=Lib.hid hb
   clear hb
   go_enter Tryz.func57,Tryz.ntmps57
   go_wp2_with fail
   go_loop [3] (fun i=>∃ k:Nat,k≤s.size∧i=.int .i64 k∧Hid ((s.data.toList.take k).any zeroB=false)) (fun i=>s.size - (RowKit.intOf i).toNat)
   case atStart=>exact ⟨0,by omega,rfl,Lib.hid rfl⟩
   case round =>
    obtain ⟨k,hk,rfl,HA⟩:=hrel
    by_cases hlt:k<s.size
    ·have ht:=zany_take_succ s k hlt
     rw [HA.out,Bool.false_or] at ht
     obtain ⟨x,hx⟩:∃ x,s[k]'hlt=x:=⟨_,rfl⟩
     rw [hx] at ht
     have h0:((x.toNat:Int) == 0)=(x == 0):=by
      rw [Bool.eq_iff_iff,beq_iff_eq,beq_iff_eq,← UInt8.toNat_inj]
      constructor
      ·intro h;exact Int.ofNat_inj.1 h
      ·intro h;rw [h];rfl
     unfold zeroB at ht
     cases q2:(x == 0)
     ·rw [q2] at h0 ht
      have HT:=Lib.hid ht
      clear ht HA q2
      go_wp2_with fail
      go_round
      case rel=>exact ⟨k+1,by omega,by go_num,Lib.hid HT.out⟩
      case measure=>simp [RowKit.intOf];omega
     ·rw [q2] at h0 ht
      have HT:=Lib.hid (zany_of_take (l:=s.data.toList) (k:=k+1) ht)
      clear ht HA q2
      go_wp2_with fail
      go_ret
      exact ⟨by rw [show b=true from HB.out.symm.trans HT.out];rfl,rfl⟩
    ·obtain rfl:k=s.size:=by omega
     go_wp2_with fail
     go_ret
     refine ⟨?_,rfl⟩
     have:=HA.out
     rw [List.take_of_length_le (by rw [Array.length_toList];exact Nat.le_refl _)] at this
     rw [show b=false from HB.out.symm.trans this];rfl
  ·have g2:decide ((s.size:Int) > 1024)=true:=decide_eq_true (by omega)
   have g4:1024<(s.size:Int):=by omega
   have g5:decide (1024<(s.size:Int))=true:=decide_eq_true (by omega)
   unfold targetB
   rw [decide_eq_false h2,Bool.and_false,Bool.false_and]
   go_enter Tryz.func57,Tryz.ntmps57
   go_wp2_with fail
   go_ret
   exact ⟨rfl,rfl⟩
 ·have g1:decide ((s.size:Int)<1)=true:=decide_eq_true (by omega)
  have g3:(s.size:Int)<1:=by omega
  unfold targetB
  rw [decide_eq_false h1,Bool.false_and,Bool.false_and]
  go_enter Tryz.func57,Tryz.ntmps57
  go_wp2_with fail
  go_ret
  exact ⟨rfl,rfl⟩
def aloneB (f:File):Bool:=if f.kind=1 then f.data.toList.isEmpty else if f.kind=2 then decide (f.files.length=0) else if f.kind=3 then decide (f.files.length=0) && targetB f.data else false
set_option maxHeartbeats 4000000 in
theorem alone_calls (f:File) (A:Option Addr) (c:Nat) (w:World):Calls Tryz.prog 126 #[fileV f A c] w fun e w'=>e=.returned (.bool (aloneB f))∧Below w.heap.size w w':=by
 have HI:=Lib.hid (fun W=>target_calls f.data W)
 have hB:Below w.heap.size w (w.alloc (.cells (fc f A c) 25)):=(Below.refl _ _).alloc (Nat.le_refl _) _
 obtain ⟨fn,fk,fd,fl⟩:=f
 have HB:=Lib.hid hB
 clear hB
 unfold aloneB fileV
 change Hid (∀ W,Calls Tryz.prog 52 #[.string fd] W fun e w'=>e=.returned (.bool (targetB fd))∧w'=W) at HI
 show Calls _ _ _ _ fun e w'=>e=.returned (.bool (if fk=1 then fd.toList.isEmpty else if fk=2 then decide (fl.length=0) else if fk=3 then decide (fl.length=0) && targetB fd else false))∧_
 generalize targetB fd=tb at *
 have hl:decide (fl.length=0)=((fl.length:Int) == 0):=by rw [Bool.eq_iff_iff,decide_eq_true_iff,beq_iff_eq];omega
 rw [hl]
 have hbz:Hid (Below w.heap.size w (w.alloc (.cells #[.string fn,.int .u8 fk,.string fd,.slice A fl.length c] 25))):=HB
 clear hl HB
 by_cases h1:fk=1
 ·subst h1
  rw [if_pos rfl]
  go_enter Tryz.func126,Tryz.ntmps126
  go_wp2_with fail
  go_ret
  exact ⟨rfl,hbz.out⟩
 ·have k1:(fk == 1)=false:=beq_eq_false_iff_ne.2 h1
  rw [if_neg h1]
  by_cases h2:fk=2
  ·subst h2
   rw [if_pos rfl]
   clear k1 h1
   go_enter Tryz.func126,Tryz.ntmps126
   go_wp2_with fail
   go_ret
   exact ⟨rfl,hbz.out⟩
  ·have k2:(fk == 2)=false:=beq_eq_false_iff_ne.2 h2
   rw [if_neg h2]
   by_cases h3:fk=3
   ·subst h3
    rw [if_pos rfl]
    clear k1 k2 h1 h2
    cases hz:((fl.length:Int) == 0)
    ·go_enter Tryz.func126,Tryz.ntmps126
     go_wp2_with fail
     go_ret
     exact ⟨rfl,hbz.out⟩
    ·go_enter Tryz.func126,Tryz.ntmps126
     go_wp2_with fail
     refine (HI.out _).mono ?_
     rintro e w1 ⟨rfl,rfl⟩
     go_wp2_with fail
     go_ret
     exact ⟨rfl,hbz.out⟩
   ·have k3:(fk == 3)=false:=beq_eq_false_iff_ne.2 h3
    rw [if_neg h3]
    clear h1 h2 h3
    go_enter Tryz.func126,Tryz.ntmps126
    go_wp2_with fail
    go_ret
    exact ⟨rfl,hbz.out⟩
set_option maxHeartbeats 4000000 in
theorem ralone_calls (f:File) (A:Option Addr) (c:Nat) (w:World):Calls Tryz.prog 152 #[fileV f A c] w fun e w'=>e=.returned (.bool (aloneB f))∧Below w.heap.size w w':=by
 have HI:=Lib.hid (fun W=>rtarget_calls f.data W)
 have hB:Below w.heap.size w (w.alloc (.cells (fc f A c) 25)):=(Below.refl _ _).alloc (Nat.le_refl _) _
 obtain ⟨fn,fk,fd,fl⟩:=f
 have HB:=Lib.hid hB
 clear hB
 unfold aloneB fileV
 change Hid (∀ W,Calls Tryz.prog 57 #[.string fd] W fun e w'=>e=.returned (.bool (targetB fd))∧w'=W) at HI
 show Calls _ _ _ _ fun e w'=>e=.returned (.bool (if fk=1 then fd.toList.isEmpty else if fk=2 then decide (fl.length=0) else if fk=3 then decide (fl.length=0) && targetB fd else false))∧_
 generalize targetB fd=tb at *
 have hl:decide (fl.length=0)=((fl.length:Int) == 0):=by rw [Bool.eq_iff_iff,decide_eq_true_iff,beq_iff_eq];omega
 rw [hl]
 have hbz:Hid (Below w.heap.size w (w.alloc (.cells #[.string fn,.int .u8 fk,.string fd,.slice A fl.length c] 25))):=HB
 clear hl HB
 by_cases h1:fk=1
 ·subst h1
  rw [if_pos rfl]
  go_enter Tryz.func152,Tryz.ntmps152
  go_wp2_with fail
  go_ret
  exact ⟨rfl,hbz.out⟩
 ·have k1:(fk == 1)=false:=beq_eq_false_iff_ne.2 h1
  rw [if_neg h1]
  by_cases h2:fk=2
  ·subst h2
   rw [if_pos rfl]
   clear k1 h1
   go_enter Tryz.func152,Tryz.ntmps152
   go_wp2_with fail
   go_ret
   exact ⟨rfl,hbz.out⟩
  ·have k2:(fk == 2)=false:=beq_eq_false_iff_ne.2 h2
   rw [if_neg h2]
   by_cases h3:fk=3
   ·subst h3
    rw [if_pos rfl]
    clear k1 k2 h1 h2
    cases hz:((fl.length:Int) == 0)
    ·go_enter Tryz.func152,Tryz.ntmps152
     go_wp2_with fail
     go_ret
     exact ⟨rfl,hbz.out⟩
    ·go_enter Tryz.func152,Tryz.ntmps152
     go_wp2_with fail
     refine (HI.out _).mono ?_
     rintro e w1 ⟨rfl,rfl⟩
     go_wp2_with fail
     go_ret
     exact ⟨rfl,hbz.out⟩
   ·have k3:(fk == 3)=false:=beq_eq_false_iff_ne.2 h3
    rw [if_neg h3]
    clear h1 h2 h3
    go_enter Tryz.func152,Tryz.ntmps152
    go_wp2_with fail
    go_ret
    exact ⟨rfl,hbz.out⟩
end Go.Proofs.YtdnhjnlhmfajnaaGreatDoor.G
end
section
namespace Go.Proofs.YtdnhjnlhmfajnaaGreatDoor.G
open Go.RowKit Go.Lib Go.Proofs.YtdnhjnlhmfajnaaGreatDoorW.PrintWords Go.Proofs.YtdnhjnlhmfajnaaGreatDoorW.PrintLast
set_option linter.unusedVariables false
set_option maxHeartbeats 4000000 in
theorem below_calls (A:Option Addr) (c:Nat) (p:List ByteArray) (name:ByteArray) (w:World) (hr:Kd.C Kd.string w A p.length p) (hc:p.length≤c) (hl:p.length≤4398046511104) :
    Calls Tryz.prog 79 #[.slice A p.length c,.string name] w fun e w'=>∃ v,e=.returned v∧Kd.R Kd.string 9 w' w.heap.size (fun _=>True) v (p++[name])∧Below w.heap.size w w':=by
  have HC:=Lib.hid (clone_calls A c p w hr hc (by omega))
  clear hr
  go_enter Tryz.func79,Tryz.ntmps79
  go_wp2_with fail
  refine HC.out.mono ?_
  rintro e w1 ⟨v1,rfl,ho,hb⟩
  have hsz:=hb.size
  have HO:=Lib.hid ho
  obtain ⟨A1,c1,rfl,hc1,hC1⟩:=Kd.R_reads ho
  clear ho hC1 HC
  go_wp2_with (at_builtin;refine Kd.R_append Kd.string (w0:=w) w.heap.size rfl (.tmp 6) (.tmp 8) 37 9 (.string ⟨#[]⟩) 16 rfl Tryz.underlying37 info_str rfl (by decide) (by decide) _ p name [.string name] (fun _=>True) (fun _=>False) rfl rfl ?aP ?aK ?aF ?aO ?aB ?aS ?aL ?_;(case aP=>exact rfl);(case aK=>exact fun j hj=>hj.elim);(case aF=>exact fun _ _=>trivial);(case aO=>exact HO.out);(case aB=>exact hb);(case aS=>exact hsz);(case aL=>omega);intro v2 w2 ho2 hb2 hg2 hat2)
  go_ret
  exact ⟨_,rfl,ho2,hb2⟩
set_option maxHeartbeats 4000000 in
theorem longer_calls (A:Option Addr) (c:Nat) (p:List ByteArray) (name:ByteArray) (w:World) (hr:Kd.C Kd.string w A p.length p) (hc:p.length≤c) (hl:p.length≤4398046511104) :
    Calls Tryz.prog 83 #[.slice A p.length c,.string name] w fun e w'=>∃ v,e=.returned v∧Kd.R Kd.string 9 w' w.heap.size (fun _=>True) v (p++[name])∧Below w.heap.size w w':=by
  have HR:=Lib.hid hr
  clear hr
  go_enter Tryz.func83,Tryz.ntmps83
  go_wp2_with (first
    | (at_builtin
       refine Kd.R_append_row Value.string ByteArray.empty (h1:=fun _=>rfl) (w0:=w) w.heap.size rfl (.tmp 6) (.tmp 7) 37 9 (.string ⟨#[]⟩) 16 rfl Tryz.underlying37 info_str rfl (by decide) (.slice none 0 0) [] p A p.length c (fun _=>True) rfl rfl ?aF ?aO ?aR ?aB ?aS ?aL ?_
       case aF=>exact fun _ _=>trivial
       case aO=>exact Kd.R_nil _ _ _ _ _
       case aR=>exact HR.out
       case aB=>exact Below.refl _ _
       case aS=>exact Nat.le_refl _
       case aL=>simp only [List.length_nil];omega
       intro v1 w1 ho1 hb1 hg1 hat1
       rw [List.nil_append] at ho1
       have HO:=Lib.hid ho1
       have hsz:=hb1.size
       obtain ⟨A1,c1,rfl,hc1,hC1⟩:=Kd.R_reads ho1
       clear ho1 hC1 hat1 hg1)
    | (at_builtin
       refine Kd.R_append Kd.string (w0:=w) w.heap.size rfl (.tmp 9) (.tmp 11) 37 9 (.string ⟨#[]⟩) 16 rfl Tryz.underlying37 info_str rfl (by decide) (by decide) _ p name [.string name] (fun _=>True) (fun _=>False) rfl rfl ?aP ?aK ?aF ?aO ?aB ?aS ?aL ?_
       case aP=>exact rfl
       case aK=>exact fun j hj=>hj.elim
       case aF=>exact fun _ _=>trivial
       case aO=>exact HO.out
       case aB=>exact hb1
       case aS=>exact hsz
       case aL=>omega
       intro v2 w2 ho2 hb2 hg2 hat2))
  go_ret
  exact ⟨_,rfl,ho2,hb2⟩
end Go.Proofs.YtdnhjnlhmfajnaaGreatDoor.G
end
