import Derived.Test.YthlcjjhfkldmhaaGreatDoorPCore
import Derived.BigQuiet
set_option linter.unusedVariables false
set_option linter.unusedSimpArgs false
section
namespace Go.Proofs.YthlcjjhfkldmhaaGreatDoor.P
section
open Go.RowKit Go.Lib Go.Proofs.YthlcjjhfkldmhaaGreatDoorW.PrintWords Go.Proofs.YthlcjjhfkldmhaaGreatDoorW.PrintLast Go.Proofs.YthlcjjhfkldmhaaGreatDoor.G
set_option linter.unusedVariables false
set_option linter.unusedSimpArgs false
def both:List ByteArray→List ByteArray→Nat
 | x :: a,y :: b=>if x=y then both a b+1 else 0
 | _,_=>0
def Alike (a b:List ByteArray) (k:Nat):Prop:=∀ j:Nat,j<k→rdOf ByteArray.empty a (j:Int)=rdOf ByteArray.empty b (j:Int)
theorem both_of:∀ {a b:List ByteArray} {k:Nat},k≤a.length→k≤b.length→Alike a b k→(k<a.length→k<b.length→rdOf ByteArray.empty a (k:Int)≠rdOf ByteArray.empty b (k:Int))→both a b=k
 | [],_,k,h1,_,_,_=>by simp at h1;subst h1;simp [both]
 | x :: a,[],k,_,h2,_,_=>by simp at h2;subst h2;simp [both]
 | x :: a,y :: b,0,_,_,_,hn=>by
  have:=hn (by simp) (by simp)
  simp [rdOf] at this
  simp [both,this]
 | x :: a,y :: b,k+1,h1,h2,h,hn=>by
  have h0:=h 0 (by omega)
  simp [rdOf] at h0
  have:=both_of (a:=a) (b:=b) (k:=k) (by simpa using h1) (by simpa using h2) (fun j hj=>by
   have:=h (j+1) (by omega)
   simpa [rdOf] using this) (fun q1 q2=>by
   have:=hn (by simpa using q1) (by simpa using q2)
   simpa [rdOf] using this)
  simp [both,h0,this]
set_option maxHeartbeats 4000000 in
theorem rboth_calls (A:Option Addr) (c:Nat) (a:List ByteArray) (B:Option Addr) (d:Nat) (b:List ByteArray) (w:World) (hr:Kd.C Kd.string w A a.length a) (hc:a.length≤c) (hs:Kd.C Kd.string w B b.length b) (hd:b.length≤d) (hl:a.length≤8796093022208) :
  Calls Tryz.prog 43 #[.slice A a.length c,.slice B b.length d] w fun e w'=>e=.returned (.int .i64 (both a b))∧∃ n,w'=w.drewN n:=by
 have HR:=Lib.hid hr
 have HS:=Lib.hid hs
 clear hr hs
 go_enter Tryz.func43,Tryz.ntmps43
 go_wp2
 go_loopw [5] (fun i wr=>∃ k n:Nat,k≤a.length∧k≤b.length∧i=.int .i64 k∧wr=w.drewN n∧Hid (Alike a b k)) (fun i _=>a.length - (RowKit.intOf i).toNat)
 case atStart=>exact ⟨0,0,by omega,by omega,rfl,rfl,Lib.hid (fun j hj=>by omega)⟩
 case round =>
  obtain ⟨k,n,hk1,hk2,rfl,rfl,HA⟩:=hrel
  by_cases q1:k<a.length
  ·have z1:decide ((k:Int)<(a.length:Int))=true:=decide_eq_true (by omega)
   by_cases q2:k<b.length
   ·have z2:decide ((k:Int)<(b.length:Int))=true:=decide_eq_true (by omega)
    obtain ⟨ad,rfl,hx⟩:=Kd.at_string HR.out (k:Int) (by omega) (by omega)
    obtain ⟨bd,rfl,hy⟩:=Kd.at_string HS.out (k:Int) (by omega) (by omega)
    rw [Int.toNat_natCast] at hx hy
    obtain ⟨x,hxe⟩:∃ x,rdOf ByteArray.empty a (k:Int)=x:=⟨_,rfl⟩
    obtain ⟨y,hye⟩:∃ y,rdOf ByteArray.empty b (k:Int)=y:=⟨_,rfl⟩
    rw [hxe] at hx
    rw [hye] at hy
    have HX:=Lib.hid hxe
    have HY:=Lib.hid hye
    clear hxe hye
    by_cases q3:x=y
    ·have z3:(x.toList == y.toList)=true:=beq_iff_eq.2 (toList_inj.2 q3)
     have H3:=Lib.hid q3
     clear q3
     go_wp2
     go_quiet (fail)
     go_wp2
     go_roundw
     case rel=>exact ⟨k+1,_,by omega,by omega,by go_num,by first | rfl | (simp only [World.drewN_drewN];rfl),Lib.hid (fun j hj=>by
      by_cases e:j=k
      ·subst e;rw [HX.out,HY.out];exact H3.out
      ·exact HA.out j (by omega))⟩
     case measure=>simp [RowKit.intOf];omega
    ·have z3:(x.toList == y.toList)=false:=beq_eq_false_iff_ne.2 (fun h=>q3 (toList_inj.1 h))
     have H3:=Lib.hid q3
     clear q3
     go_wp2
     go_quiet (fail)
     go_wp2
     go_ret
     exact ⟨by rw [both_of hk1 hk2 HA.out (fun _ _=>by rw [HX.out,HY.out];exact H3.out)];rfl,_,by first | rfl | (simp only [World.drewN_drewN];rfl)⟩
   ·have z2:decide ((k:Int)<(b.length:Int))=false:=decide_eq_false (by omega)
    go_wp2
    go_quiet (fail)
    go_wp2
    go_ret
    exact ⟨by rw [both_of hk1 hk2 HA.out (fun _ h=>absurd h q2)];rfl,_,by first | rfl | (simp only [World.drewN_drewN];rfl)⟩
  ·have z1:decide ((k:Int)<(a.length:Int))=false:=decide_eq_false (by omega)
   go_wp2
   go_quiet (fail)
   go_wp2
   go_ret
   exact ⟨by rw [both_of hk1 hk2 HA.out (fun h=>absurd h q1)];rfl,_,by first | rfl | (simp only [World.drewN_drewN];rfl)⟩
end
end Go.Proofs.YthlcjjhfkldmhaaGreatDoor.P
end
section
namespace Go.Proofs.YthlcjjhfkldmhaaGreatDoor.P
section
open Go.RowKit Go.Lib Go.Proofs.YthlcjjhfkldmhaaGreatDoorW.PrintWords Go.Proofs.YthlcjjhfkldmhaaGreatDoorW.PrintLast Go.Proofs.YthlcjjhfkldmhaaGreatDoor.G
set_option linter.unusedVariables false
set_option linter.unusedSimpArgs false
set_option maxHeartbeats 4000000 in
theorem rname_no (a0:ByteArray) (w:World) (b1 b2 b3 b4:Bool) (e1:decide ((a0.size:Int)<1)=b1) (e2:decide (255<(a0.size:Int))=b2) (e3:(a0.toList == [46])=b3) (e4:(a0.toList == [46,46])=b4)
  (hb:(b1 || b2 || b3 || b4)=true) :
  Calls Tryz.prog 48 #[.string a0] w fun e w'=>e=.returned (.bool false)∧w'=w:=by
 cases b1
 ·cases b2
  ·cases b3
   ·cases b4
    ·cases hb
    ·go_enter Tryz.func48,Tryz.ntmps48
     go_wp2
     go_ret
     exact ⟨rfl,rfl⟩
   ·clear e4
    go_enter Tryz.func48,Tryz.ntmps48
    go_wp2
    go_ret
    exact ⟨rfl,rfl⟩
  ·clear e3 e4
   go_enter Tryz.func48,Tryz.ntmps48
   go_wp2
   go_ret
   exact ⟨rfl,rfl⟩
 ·clear e2 e3 e4
  go_enter Tryz.func48,Tryz.ntmps48
  go_wp2
  go_ret
  exact ⟨rfl,rfl⟩
def slashB (b:UInt8):Bool:=b == 47 || b == 0
theorem any_take_succ (s:ByteArray) (k:Nat) (h:k<s.size):(s.data.toList.take (k+1)).any slashB=((s.data.toList.take k).any slashB || slashB s[k]):=by
 have hk:k<s.data.toList.length:=by rw [Array.length_toList];exact h
 rw [List.take_succ_eq_append_getElem hk,List.any_append]
 simp only [List.any_cons,List.any_nil,Bool.or_false]
 rfl
theorem any_of_take {l:List UInt8} {k:Nat} (h:(l.take k).any slashB=true):l.any slashB=true:=by
 rw [← List.take_append_drop k l,List.any_append,h];rfl
set_option maxHeartbeats 4000000 in
theorem rname_yes (a0:ByteArray) (b:Bool) (w:World) (hb:a0.data.toList.any slashB=b) (e1:decide ((a0.size:Int)<1)=false) (e2:decide (255<(a0.size:Int))=false) (e3:(a0.toList == [46])=false) (e4:(a0.toList == [46,46])=false) :
  Calls Tryz.prog 48 #[.string a0] w fun e w'=>e=.returned (.bool (!b))∧w'=w:=by
 have HB:=Lib.hid hb
 clear hb
 have hsz:a0.size≤255:=by have:=of_decide_eq_false e2;omega
 go_enter Tryz.func48,Tryz.ntmps48
 go_wp2
 go_loop [3] (fun i=>∃ k:Nat,k≤a0.size∧i=.int .i64 k∧Hid ((a0.data.toList.take k).any slashB=false)) (fun i=>a0.size - (RowKit.intOf i).toNat)
 case atStart=>exact ⟨0,by omega,rfl,Lib.hid rfl⟩
 case round =>
  obtain ⟨k,hk,rfl,HA⟩:=hrel
  by_cases hlt:k<a0.size
  ·have ht:=any_take_succ a0 k hlt
   rw [HA.out,Bool.false_or] at ht
   obtain ⟨x,hx⟩:∃ x,a0[k]'hlt=x:=⟨_,rfl⟩
   rw [hx] at ht
   have h47:((x.toNat:Int) == 47)=(x == 47):=by
    rw [Bool.eq_iff_iff,beq_iff_eq,beq_iff_eq,← UInt8.toNat_inj]
    constructor
    ·intro h;exact Int.ofNat_inj.1 h
    ·intro h;rw [h];rfl
   have h0:((x.toNat:Int) == 0)=(x == 0):=by
    rw [Bool.eq_iff_iff,beq_iff_eq,beq_iff_eq,← UInt8.toNat_inj]
    constructor
    ·intro h;exact Int.ofNat_inj.1 h
    ·intro h;rw [h];rfl
   unfold slashB at ht
   cases q1:(x == 47)
   ·rw [q1] at h47 ht
    cases q2:(x == 0)
    ·rw [q2] at h0 ht
     have HT:=Lib.hid ht
     clear ht HA q1 q2
     go_wp2
     go_round
     case rel=>exact ⟨k+1,by omega,by go_num,Lib.hid HT.out⟩
     case measure=>simp [RowKit.intOf];omega
    ·rw [q2] at h0 ht
     have HT:=Lib.hid (any_of_take (l:=a0.data.toList) (k:=k+1) ht)
     clear ht HA q1 q2
     go_wp2
     go_ret
     exact ⟨by rw [show b=true from HB.out.symm.trans HT.out];rfl,rfl⟩
   ·rw [q1] at h47 ht
    have HT:=Lib.hid (any_of_take (l:=a0.data.toList) (k:=k+1) ht)
    clear ht HA q1 h0
    go_wp2
    go_ret
    exact ⟨by rw [show b=true from HB.out.symm.trans HT.out];rfl,rfl⟩
  ·obtain rfl:k=a0.size:=by omega
   go_wp2
   go_ret
   refine ⟨?_,rfl⟩
   have:=HA.out
   rw [List.take_of_length_le (by rw [Array.length_toList];exact Nat.le_refl _)] at this
   rw [show b=false from HB.out.symm.trans this];rfl
theorem rname_calls (a0:ByteArray) (w:World) :
  Calls Tryz.prog 48 #[.string a0] w fun e w'=>e=.returned (.bool (nameB a0.data.toList))∧w'=w:=by
 have hl:a0.toList=a0.data.toList:=Lib.toList_data a0
 have hn:a0.data.toList.length=a0.size:=(Lib.size_eq a0).symm
 have hem:a0.data.toList.isEmpty=decide ((a0.size:Int)<1):=by
  cases h:a0.data.toList with
  | nil=>rw [h] at hn;simp at hn;simp [← hn]
  | cons x t=>rw [h] at hn;simp at hn ⊢;omega
 have h255:decide (a0.data.toList.length≤255) = !decide (255<(a0.size:Int)):=by rw [hn,← decide_not,decide_eq_decide];omega
 unfold nameB
 rw [hem,h255,bne,bne,← hl]
 by_cases hb:(decide ((a0.size:Int)<1) || decide (255<(a0.size:Int)) || (a0.toList == [46]) || (a0.toList == [46,46]))=true
 ·refine (rname_no a0 w _ _ _ _ rfl rfl rfl rfl hb).mono fun e w' ⟨he,h⟩=>⟨?_,h⟩
  rw [he]
  congr 2
  revert hb
  cases decide ((a0.size:Int)<1) <;> cases decide (255<(a0.size:Int)) <;> cases (a0.toList == [46]) <;> cases (a0.toList == [46,46]) <;> simp
 ·simp only [Bool.or_eq_true,not_or,Bool.not_eq_true] at hb
  obtain ⟨⟨⟨h1,h2⟩,h3⟩,h4⟩:=hb
  refine (rname_yes a0 _ w rfl h1 h2 h3 h4).mono fun e w' ⟨he,h⟩=>⟨?_,h⟩
  rw [he,h1,h2,h3,h4,hl]
  rfl
def rsizeFrom (n:Int):List ByteArray→Int
 | []=>n
 | s :: l=>if n≤1024 then rsizeFrom (n+1+(s.size:Int)) l else n
def rsize (l:List ByteArray):Int:=if l=[] then 1 else rsizeFrom 0 l
theorem rsizeFrom_big {n:Int} {l:List ByteArray} (h:¬ n≤1024):rsizeFrom n l=n:=by cases l <;> simp [rsizeFrom,h]
theorem rsizeFrom_gt (l:List ByteArray):∀ n:Int,0≤n→(1024<rsizeFrom n l↔1024<n+sumP l):=by
 induction l with
 | nil=>intro n _;simp [rsizeFrom,sumP]
 | cons s l ih =>
  intro n hn
  have h0:=sumP_nonneg l
  have hs:sumP (s :: l)=1+(s.size:Int)+sumP l:=by simp [sumP]
  rw [rsizeFrom,hs]
  split
  ·rw [ih _ (by omega)];omega
  ·omega
theorem rsize_gt (l:List ByteArray):decide (1024<rsize l) = !decide (sizeP l≤1024):=by
 rw [← decide_not,decide_eq_decide,rsize,sizeP]
 split
 ·rename_i h;subst h;simp [sumP];decide
 ·rw [rsizeFrom_gt l 0 (by omega)];omega
set_option maxHeartbeats 2000000 in
theorem rsize_calls (A:Option Addr) (c:Nat) (l:List ByteArray) (w:World) (hr:Kd.C Kd.string w A l.length l) (hc:l.length≤c) (hb:sumP l≤4611686018427387904) (hl:l.length≤8796093022208) :
  Calls Tryz.prog 47 #[.slice A l.length c] w fun e w'=>e=.returned (.int .i64 (rsize l))∧w'=w:=by
 by_cases hn:l=[]
 ·subst hn
  go_enter Tryz.func47,Tryz.ntmps47
  go_wp2
  go_ret
  exact ⟨rfl,rfl⟩
 have hz:((l.length:Int) == 0)=false:=beq_eq_false_iff_ne.2 (by intro h;exact hn (List.length_eq_zero_iff.1 (by omega)))
 have HE:=Lib.hid (show rsize l=rsizeFrom 0 l by rw [rsize,if_neg hn])
 have HR:=Lib.hid hr
 clear hr hn
 generalize rsize l=R at *
 go_enter Tryz.func47,Tryz.ntmps47
 go_wp2
 go_loop [3,4] (fun n i=>∃ (k:Nat) (m:Int),k≤l.length∧i=.int .i64 k∧n=.int .i64 m∧Hid (R=rsizeFrom m (l.drop k))∧0≤m∧m≤sumP (l.take k)) (fun _ i=>l.length - (RowKit.intOf i).toNat)
 case atStart=>exact ⟨0,0,by omega,rfl,rfl,Lib.hid HE.out,by omega,by simp [sumP]⟩
 case round =>
  obtain ⟨k,m,hk,rfl,rfl,HM,hm0,hm1⟩:=hrel
  have h1:=sumP_take_le l k
  by_cases hlt:k<l.length
  ·by_cases hm:m≤1024
   ·obtain ⟨ad,rfl,hx⟩:=Kd.at_string HR.out (k:Int) (by omega) (by omega)
    rw [Int.toNat_natCast] at hx
    have hd:=sumP_take l k hlt
    have h2:=sumP_take_le l (k+1)
    have he:rdOf ByteArray.empty l (k:Int)=l[k]:=by simp [rdOf,hlt]
    rw [he] at hx
    have hdr:l.drop k=l[k] :: l.drop (k+1):=List.drop_eq_getElem_cons hlt
    have HM2:=HM.out
    rw [hdr,rsizeFrom,if_pos hm] at HM2
    have HM3:=Lib.hid HM2
    clear he hdr HM2 HM
    generalize l[k]=s at *
    have hm3:m+1+(s.size:Int)≤sumP (l.take (k+1)):=by omega
    have hm4:m+1+(s.size:Int)≤4611686018427387904:=by omega
    clear hd h2
    go_wp2
    go_round
    case rel=>exact ⟨k+1,m+1+(s.size:Int),by omega,by go_num,rfl,HM3,by omega,hm3⟩
    case measure=>simp [RowKit.intOf];omega
   ·have hf:decide (m≤1024)=false:=decide_eq_false hm
    have HM2:=HM.out
    rw [rsizeFrom_big hm] at HM2
    have HM3:=Lib.hid HM2
    clear HM2 HM
    go_wp2
    go_ret
    exact ⟨by rw [HM3.out];rfl,rfl⟩
  ·obtain rfl:k=l.length:=by omega
   have HM2:=HM.out
   rw [List.drop_length,rsizeFrom] at HM2
   have HM3:=Lib.hid HM2
   clear HM2 HM
   go_wp2
   go_ret
   exact ⟨by rw [HM3.out];rfl,rfl⟩
set_option maxHeartbeats 2000000 in
theorem rright_calls (A:Option Addr) (c:Nat) (l:List ByteArray) (w:World) (hr:Kd.C Kd.string w A l.length l) (hc:l.length≤c) (hb:sumP l≤4611686018427387904) (hl:l.length≤8796093022208) :
  Calls Tryz.prog 28 #[.slice A l.length c] w fun e w'=>e=.returned (.bool (rightB l))∧w'=w:=by
 have H1:=Lib.hid (fun W h=>rsize_calls A c l W h hc hb hl)
 have hg:=rsize_gt l
 have HR:=Lib.hid hr
 clear hr hb
 have HQ:=Lib.hid (show rightB l=(decide (sizeP l≤1024) && l.all fun s=>nameB s.data.toList) from rfl)
 generalize rightB l=R at *
 cases hs:decide (sizeP l≤1024)
 ·rw [hs] at hg
  have HQ2:=Lib.hid (show R=false by rw [HQ.out,hs];rfl)
  clear HQ hs
  generalize rsize l=sz at *
  go_enter Tryz.func28,Tryz.ntmps28
  go_wp2_with (go_at_call 47;refine (H1.out _ HR.out).mono ?_;rintro e w' ⟨rfl,rfl⟩)
  go_ret
  exact ⟨by rw [HQ2.out];rfl,rfl⟩
 ·rw [hs] at hg
  have HQ2:=Lib.hid (show R=(l.all fun s=>nameB s.data.toList) by rw [HQ.out,hs];rfl)
  clear HQ hs
  generalize rsize l=sz at *
  go_enter Tryz.func28,Tryz.ntmps28
  go_wp2_with (go_at_call 47;refine (H1.out _ HR.out).mono ?_;rintro e w' ⟨rfl,hw⟩;rw [hw])
  go_loop [4] (fun i=>∃ k:Nat,k≤l.length∧i=.int .i64 k∧Hid (∀ j,(hj:j<k)→(hj2:j<l.length)→nameB l[j].data.toList=true)) (fun i=>l.length - (RowKit.intOf i).toNat)
  case atStart=>exact ⟨0,by omega,rfl,Lib.hid (fun j hj=>by omega)⟩
  case round =>
   obtain ⟨k,hk,rfl,HN⟩:=hrel
   by_cases hlt:k<l.length
   ·obtain ⟨ad,rfl,hx⟩:=Kd.at_string HR.out (k:Int) (by omega) (by omega)
    rw [Int.toNat_natCast] at hx
    have he:rdOf ByteArray.empty l (k:Int)=l[k]:=by simp [rdOf,hlt]
    rw [he] at hx
    clear he
    obtain ⟨s,hs⟩:∃ s,l[k]=s:=⟨_,rfl⟩
    have hn:=fun W=>rname_calls s W
    rw [hs] at hx
    have HS:=Lib.hid hs
    clear hs
    cases hb:nameB s.data.toList
    ·rw [hb] at hn
     have HC:=Lib.hid hn
     have HB:=Lib.hid hb
     clear hn hb
     go_wp2_with (go_at_call 48;refine (HC.out _).mono ?_;rintro e w' ⟨rfl,hw⟩;rw [hw])
     go_ret
     refine ⟨?_,rfl⟩
     rw [HQ2.out,show (l.all fun s=>nameB s.data.toList)=false from by
      rw [List.all_eq_false]
      exact ⟨l[k],List.getElem_mem hlt,by rw [HS.out,HB.out];simp⟩]
     rfl
    ·rw [hb] at hn
     have HC:=Lib.hid hn
     have HB:=Lib.hid hb
     clear hn hb
     go_wp2_with (go_at_call 48;refine (HC.out _).mono ?_;rintro e w' ⟨rfl,hw⟩;rw [hw])
     go_round
     case rel=>exact ⟨k+1,by omega,by go_num,Lib.hid (fun j hj hj2=>by
      by_cases e:j=k
      ·subst e;rw [HS.out];exact HB.out
      ·exact HN.out j (by omega) hj2)⟩
     case measure=>simp [RowKit.intOf];omega
   ·obtain rfl:k=l.length:=by omega
    go_wp2
    go_ret
    refine ⟨?_,rfl⟩
    rw [HQ2.out,show (l.all fun s=>nameB s.data.toList)=true from by
     rw [List.all_eq_true]
     intro s hs
     obtain ⟨j,hj,rfl⟩:=List.getElem_of_mem hs
     exact HN.out j hj hj]
    rfl
set_option maxHeartbeats 2000000 in
set_option maxRecDepth 100000 in
theorem rcopy_calls (A:Option Addr) (c:Nat) (l:List ByteArray) (w:World) (hr:Kd.C Kd.string w A l.length l) (hc:l.length≤c) (hl:l.length≤4398046511104) :
  Calls Tryz.prog 29 #[.slice A l.length c] w fun e w'=>∃ v,e=.returned v∧Kd.R Kd.string 9 w' w.heap.size (fun _=>True) v l∧Below w.heap.size w w':=by
 have HR:=Lib.hid hr
 clear hr
 go_enter Tryz.func29,Tryz.ntmps29
 go_wp2
 go_loopw [3,4] (fun v i wr=>∃ k:Nat,k≤l.length∧i=.int .i64 k∧Hid (Kd.R Kd.string 9 wr w.heap.size (fun _=>True) v (l.take k))∧Below w.heap.size w wr) (fun _ i _=>l.length - (RowKit.intOf i).toNat)
 case atStart=>exact ⟨0,by omega,rfl,Lib.hid (Kd.R_nil _ _ _ _ _),Below.refl _ _⟩
 case round =>
  obtain ⟨k,hk,rfl,HO,hb⟩:=hrel
  have hsz:=hb.size
  by_cases hlt:k<l.length
  ·obtain ⟨ad,rfl,hx⟩:=Kd.at_string HR.out (k:Int) (by omega) (by omega)
   rw [Int.toNat_natCast] at hx
   have hx2:=(hb.cell (World.block_lt_of_cell? w _ hx)).trans hx
   clear hx
   have he:rdOf ByteArray.empty l (k:Int)=l[k]:=by simp [rdOf,hlt]
   rw [he] at hx2
   have HT:=Lib.hid (List.take_succ_eq_append_getElem hlt)
   have hlen:(l.take k).length=k:=by rw [List.length_take];omega
   have HL:=Lib.hid hlen
   clear he hlen
   generalize l[k]=s at *
   go_wp2_with (at_builtin;refine Kd.R_append Kd.string (w0:=w) w.heap.size rfl (.tmp 11) (.tmp 16) 40 9 (.string ⟨#[]⟩) 16 rfl Tryz.underlying40 info_str rfl (by decide) (by decide) _ (l.take k) s [.string s] (fun _=>True) (fun _=>False) rfl rfl ?aP (fun _ hk=>hk.elim) ?aF ?aO ?aB ?aS ?aL ?_;(case aP=>exact rfl);(case aF=>exact (fun _ _=>trivial));(case aO=>exact HO.out);(case aB=>exact hb);(case aS=>exact hsz);(case aL=>rw [HL.out];omega);intro v1 w1 ho hb1 hg hat)
   go_roundw
   case rel=>exact ⟨k+1,by omega,by go_num,Lib.hid (by rw [HT.out];exact ho),hb1⟩
   case measure=>simp [RowKit.intOf];omega
  ·obtain rfl:k=l.length:=by omega
   go_wp2
   go_ret
   refine ⟨_,rfl,?_,hb⟩
   have:=HO.out
   rw [List.take_length] at this
   exact this
theorem both_self:∀ l,both l l=l.length
 | []=>by simp [both]
 | x :: l=>by simp [both,both_self l]
theorem both_full:∀ {a b:List ByteArray},a.length=b.length→both a b=a.length→a=b
 | [],[],_,_=>rfl
 | [],y :: b,h,_=>by simp at h
 | x :: a,[],h,_=>by simp at h
 | x :: a,y :: b,h,h2=>by
  rw [both] at h2
  split at h2
  ·rename_i e
   rw [e,both_full (a:=a) (b:=b) (by simpa using h) (by simpa using h2)]
  ·simp at h2
def sameB (a b:List ByteArray):Bool:=decide (a=b)
theorem sameB_eq (a b:List ByteArray):sameB a b=(decide (a.length=b.length) && decide (both a b=a.length)):=by
 unfold sameB
 by_cases h:a=b
 ·subst h;simp [both_self]
 ·simp only [h,decide_false]
  by_cases h1:a.length=b.length
  ·by_cases h2:both a b=a.length
   ·exact absurd (both_full h1 h2) h
   ·simp [h2]
  ·simp [h1]
set_option maxHeartbeats 2000000 in
theorem rsame_calls (A:Option Addr) (c:Nat) (a:List ByteArray) (B:Option Addr) (d:Nat) (b:List ByteArray) (w:World) (hr:Kd.C Kd.string w A a.length a) (hc:a.length≤c) (hs:Kd.C Kd.string w B b.length b) (hd:b.length≤d) (hl:a.length≤8796093022208) :
  Calls Tryz.prog 19 #[.slice A a.length c,.slice B b.length d] w fun e w'=>e=.returned (.bool (sameB a b))∧∃ n,w'=w.drewN n:=by
 have H1:=Lib.hid (fun W h1 h2=>rboth_calls A c a B d b W h1 hc h2 hd hl)
 have HR:=Lib.hid hr
 have HS:=Lib.hid hs
 clear hr hs
 have HQ:=Lib.hid (sameB_eq a b)
 generalize sameB a b=R at *
 by_cases q1:a.length=b.length
 ·have z1:((a.length:Int) == (b.length:Int))=true:=beq_iff_eq.2 (by omega)
  have z1':(a.length == b.length)=true:=beq_iff_eq.2 q1
  have HQ2:=Lib.hid (show R=((both a b:Int) == (a.length:Int)) by
   rw [HQ.out,q1]
   simp
   rw [Bool.eq_iff_iff,decide_eq_true_iff,beq_iff_eq]
   omega)
  clear HQ q1
  generalize both a b=n at *
  go_enter Tryz.func19,Tryz.ntmps19
  go_wp2_with (go_at_call 43;refine (H1.out _ HR.out HS.out).mono ?_;rintro e w' ⟨rfl,n,rfl⟩)
  go_ret
  exact ⟨by rw [HQ2.out];rfl,_,rfl⟩
 ·have z1:((a.length:Int) == (b.length:Int))=false:=beq_eq_false_iff_ne.2 (by omega)
  have z1':(a.length == b.length)=false:=beq_eq_false_iff_ne.2 q1
  have HQ2:=Lib.hid (show R=false by rw [HQ.out];simp [q1])
  clear HQ q1
  go_enter Tryz.func19,Tryz.ntmps19
  go_wp2
  go_ret
  exact ⟨by rw [HQ2.out];rfl,0,rfl⟩
end
end Go.Proofs.YthlcjjhfkldmhaaGreatDoor.P
end
