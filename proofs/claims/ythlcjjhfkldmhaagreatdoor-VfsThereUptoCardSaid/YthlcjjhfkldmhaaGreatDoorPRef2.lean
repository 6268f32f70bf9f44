import Derived.Test.YthlcjjhfkldmhaaGreatDoorPCore
import Derived.BigQuiet
set_option linter.unusedVariables false
set_option linter.unusedSimpArgs false
section
namespace Go.Proofs.YthlcjjhfkldmhaaGreatDoor.P
section
open Go.RowKit Go.Lib Go.Proofs.YthlcjjhfkldmhaaGreatDoorW.PrintWords Go.Proofs.YthlcjjhfkldmhaaGreatDoorW.PrintLast Go.Proofs.YthlcjjhfkldmhaaGreatDoor.G
set_option linter.unusedVariables false
set_option linter.unusedSimpArgs false
def both:List ByteArray→List ByteArray→Nat
 | x :: a,y :: b=>if x=y then both a b+1 else 0
 | _,_=>0
theorem both_le_left:∀ a b,both a b≤a.length
 | [],b=>by simp [both]
 | x :: a,[]=>by simp [both]
 | x :: a,y :: b=>by have:=both_le_left a b;simp only [both,List.length_cons];split <;> omega
theorem both_le_right:∀ a b,both a b≤b.length
 | [],b=>by simp [both]
 | x :: a,[]=>by simp [both]
 | x :: a,y :: b=>by have:=both_le_right a b;simp only [both,List.length_cons];split <;> omega
def Alike (a b:List ByteArray) (k:Nat):Prop:=∀ j:Nat,j<k→rdOf ByteArray.empty a (j:Int)=rdOf ByteArray.empty b (j:Int)
theorem both_of:∀ {a b:List ByteArray} {k:Nat},k≤a.length→k≤b.length→Alike a b k→(k<a.length→k<b.length→rdOf ByteArray.empty a (k:Int)≠rdOf ByteArray.empty b (k:Int))→both a b=k
 | [],_,k,h1,_,_,_=>by simp at h1;subst h1;simp [both]
 | x :: a,[],k,_,h2,_,_=>by simp at h2;subst h2;simp [both]
 | x :: a,y :: b,0,_,_,_,hn=>by
  have:=hn (by simp) (by simp)
  simp [rdOf] at this
  simp [both,this]
 | x :: a,y :: b,k+1,h1,h2,h,hn=>by
  have h0:=h 0 (by omega)
  simp [rdOf] at h0
  have:=both_of (a:=a) (b:=b) (k:=k) (by simpa using h1) (by simpa using h2) (fun j hj=>by
   have:=h (j+1) (by omega)
   simpa [rdOf] using this) (fun q1 q2=>by
   have:=hn (by simpa using q1) (by simpa using q2)
   simpa [rdOf] using this)
  simp [both,h0,this]
set_option maxHeartbeats 4000000 in
theorem rboth_calls (A:Option Addr) (c:Nat) (a:List ByteArray) (B:Option Addr) (d:Nat) (b:List ByteArray) (w:World) (hr:Kd.C Kd.string w A a.length a) (hc:a.length≤c) (hs:Kd.C Kd.string w B b.length b) (hd:b.length≤d) (hl:a.length≤8796093022208) :
  Calls Tryz.prog 43 #[.slice A a.length c,.slice B b.length d] w fun e w'=>e=.returned (.int .i64 (both a b))∧∃ n,w'=w.drewN n:=by
 have HR:=Lib.hid hr
 have HS:=Lib.hid hs
 clear hr hs
 go_enter Tryz.func43,Tryz.ntmps43
 go_wp2
 go_loopw [5] (fun i wr=>∃ k n:Nat,k≤a.length∧k≤b.length∧i=.int .i64 k∧wr=w.drewN n∧Hid (Alike a b k)) (fun i _=>a.length - (RowKit.intOf i).toNat)
 case atStart=>exact ⟨0,0,by omega,by omega,rfl,rfl,Lib.hid (fun j hj=>by omega)⟩
 case round =>
  obtain ⟨k,n,hk1,hk2,rfl,rfl,HA⟩:=hrel
  by_cases q1:k<a.length
  ·have z1:decide ((k:Int)<(a.length:Int))=true:=decide_eq_true (by omega)
   by_cases q2:k<b.length
   ·have z2:decide ((k:Int)<(b.length:Int))=true:=decide_eq_true (by omega)
    obtain ⟨ad,rfl,hx⟩:=Kd.at_string HR.out (k:Int) (by omega) (by omega)
    obtain ⟨bd,rfl,hy⟩:=Kd.at_string HS.out (k:Int) (by omega) (by omega)
    rw [Int.toNat_natCast] at hx hy
    obtain ⟨x,hxe⟩:∃ x,rdOf ByteArray.empty a (k:Int)=x:=⟨_,rfl⟩
    obtain ⟨y,hye⟩:∃ y,rdOf ByteArray.empty b (k:Int)=y:=⟨_,rfl⟩
    rw [hxe] at hx
    rw [hye] at hy
    have HX:=Lib.hid hxe
    have HY:=Lib.hid hye
    clear hxe hye
    by_cases q3:x=y
    ·have z3:(x.toList == y.toList)=true:=beq_iff_eq.2 (toList_inj.2 q3)
     have H3:=Lib.hid q3
     clear q3
     go_wp2
     go_quiet (fail)
     go_wp2
     go_roundw
     case rel=>exact ⟨k+1,_,by omega,by omega,by go_num,by first | rfl | (simp only [World.drewN_drewN];rfl),Lib.hid (fun j hj=>by
      by_cases e:j=k
      ·subst e;rw [HX.out,HY.out];exact H3.out
      ·exact HA.out j (by omega))⟩
     case measure=>simp [RowKit.intOf];omega
    ·have z3:(x.toList == y.toList)=false:=beq_eq_false_iff_ne.2 (fun h=>q3 (toList_inj.1 h))
     have H3:=Lib.hid q3
     clear q3
     go_wp2
     go_quiet (fail)
     go_wp2
     go_ret
     exact ⟨by rw [both_of hk1 hk2 HA.out (fun _ _=>by rw [HX.out,HY.out];exact H3.out)];rfl,_,by first | rfl | (simp only [World.drewN_drewN];rfl)⟩
   ·have z2:decide ((k:Int)<(b.length:Int))=false:=decide_eq_false (by omega)
    go_wp2
    go_quiet (fail)
    go_wp2
    go_ret
    exact ⟨by rw [both_of hk1 hk2 HA.out (fun _ h=>absurd h q2)];rfl,_,by first | rfl | (simp only [World.drewN_drewN];rfl)⟩
  ·have z1:decide ((k:Int)<(a.length:Int))=false:=decide_eq_false (by omega)
   go_wp2
   go_quiet (fail)
   go_wp2
   go_ret
   exact ⟨by rw [both_of hk1 hk2 HA.out (fun h=>absurd h q1)];rfl,_,by first | rfl | (simp only [World.drewN_drewN];rfl)⟩
end
end Go.Proofs.YthlcjjhfkldmhaaGreatDoor.P
end
section
namespace Go.Proofs.YthlcjjhfkldmhaaGreatDoor.P
section
open Go.RowKit Go.Lib Go.Proofs.YthlcjjhfkldmhaaGreatDoorW.PrintWords Go.Proofs.YthlcjjhfkldmhaaGreatDoorW.PrintLast Go.Proofs.YthlcjjhfkldmhaaGreatDoor.G
set_option linter.unusedVariables false
set_option linter.unusedSimpArgs false
theorem both_self:∀ l,both l l=l.length
 | []=>by simp [both]
 | x :: l=>by simp [both,both_self l]
theorem both_full:∀ {a b:List ByteArray},a.length=b.length→both a b=a.length→a=b
 | [],[],_,_=>rfl
 | [],y :: b,h,_=>by simp at h
 | x :: a,[],h,_=>by simp at h
 | x :: a,y :: b,h,h2=>by
  rw [both] at h2
  split at h2
  ·rename_i e
   rw [e,both_full (a:=a) (b:=b) (by simpa using h) (by simpa using h2)]
  ·simp at h2
def sameB (a b:List ByteArray):Bool:=decide (a=b)
theorem sameB_eq (a b:List ByteArray):sameB a b=(decide (a.length=b.length) && decide (both a b=a.length)):=by
 unfold sameB
 by_cases h:a=b
 ·subst h;simp [both_self]
 ·simp only [h,decide_false]
  by_cases h1:a.length=b.length
  ·by_cases h2:both a b=a.length
   ·exact absurd (both_full h1 h2) h
   ·simp [h2]
  ·simp [h1]
set_option maxHeartbeats 2000000 in
theorem rsame_calls (A:Option Addr) (c:Nat) (a:List ByteArray) (B:Option Addr) (d:Nat) (b:List ByteArray) (w:World) (hr:Kd.C Kd.string w A a.length a) (hc:a.length≤c) (hs:Kd.C Kd.string w B b.length b) (hd:b.length≤d) (hl:a.length≤8796093022208) :
  Calls Tryz.prog 19 #[.slice A a.length c,.slice B b.length d] w fun e w'=>e=.returned (.bool (sameB a b))∧∃ n,w'=w.drewN n:=by
 have H1:=Lib.hid (fun W h1 h2=>rboth_calls A c a B d b W h1 hc h2 hd hl)
 have HR:=Lib.hid hr
 have HS:=Lib.hid hs
 clear hr hs
 have HQ:=Lib.hid (sameB_eq a b)
 generalize sameB a b=R at *
 by_cases q1:a.length=b.length
 ·have z1:((a.length:Int) == (b.length:Int))=true:=beq_iff_eq.2 (by omega)
  have z1':(a.length == b.length)=true:=beq_iff_eq.2 q1
  have HQ2:=Lib.hid (show R=((both a b:Int) == (a.length:Int)) by
   rw [HQ.out,q1]
   simp
   rw [Bool.eq_iff_iff,decide_eq_true_iff,beq_iff_eq]
   omega)
  clear HQ q1
  generalize both a b=n at *
  go_enter Tryz.func19,Tryz.ntmps19
  go_wp2_with (go_at_call 43;refine (H1.out _ HR.out HS.out).mono ?_;rintro e w' ⟨rfl,n,rfl⟩)
  go_ret
  exact ⟨by rw [HQ2.out];rfl,_,rfl⟩
 ·have z1:((a.length:Int) == (b.length:Int))=false:=beq_eq_false_iff_ne.2 (by omega)
  have z1':(a.length == b.length)=false:=beq_eq_false_iff_ne.2 q1
  have HQ2:=Lib.hid (show R=false by rw [HQ.out];simp [q1])
  clear HQ q1
  go_enter Tryz.func19,Tryz.ntmps19
  go_wp2
  go_ret
  exact ⟨by rw [HQ2.out];rfl,0,rfl⟩
end
end Go.Proofs.YthlcjjhfkldmhaaGreatDoor.P
end
