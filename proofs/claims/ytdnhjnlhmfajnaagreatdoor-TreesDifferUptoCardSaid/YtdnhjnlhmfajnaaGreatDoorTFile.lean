import Derived.Test.YtdnhjnlhmfajnaaGreatDoorName
import Derived.Test.YtdnhjnlhmfajnaaGreatDoorQLast
import Derived.Test.YtdnhjnlhmfajnaaGreatDoorQApart
import Derived.Lib.SliceRun
import Derived.BigQuiet
import Derived.IntWalk
set_option linter.unusedVariables false
set_option linter.unusedSimpArgs false
section
namespace Go.Proofs.YtdnhjnlhmfajnaaGreatDoor.G
open Go.RowKit Go.Lib Go.Proofs.YtdnhjnlhmfajnaaGreatDoorW.PrintWords Go.Proofs.YtdnhjnlhmfajnaaGreatDoorW.PrintLast
set_option linter.unusedVariables false
theorem info_str:(Tryz.prog.info? 9).map (fun i=>(i.zero,i.size,i.bytes))=some (some (.string ⟨#[]⟩),1,16):=by kernel_rfl
theorem info_path:(Tryz.prog.info? 37).map (fun i=>(i.zero,i.size,i.bytes))=some (some (.slice none 0 0),1,24):=by kernel_rfl
theorem R_lit0 {α:Type} (d:Kd α) (e:Nat) (W:World) (base:Nat) (ok:Nat→Prop) (hb:base≤W.heap.size) (hok:∀ k,W.heap.size≤k→ok k) :
  d.R e (W.alloc (.cells #[] e)) base ok (.slice (some ⟨W.heap.size,0,none⟩) 0 0) [] :=
 ⟨fun k hk=>hok k (by simp [Value.ownBlock] at hk;omega),OwnRow.lit W base (Reps.none _ _) hb (by simp)⟩
set_option maxHeartbeats 1000000 in
theorem clone_calls (A:Option Addr) (c:Nat) (l:List ByteArray) (w:World) (hr:Kd.C Kd.string w A l.length l) (hc:l.length≤c) (hl:l.length≤8796093022208) :
  Calls Tryz.prog 66 #[.slice A l.length c] w fun e w'=>∃ v,e=.returned v∧Kd.R Kd.string 9 w' w.heap.size (fun _=>True) v l∧Below w.heap.size w w':=by
 have hq:=fun W=>Lib.run_eql_slice_nil (P:=Tryz.prog) W 37 9 A l.length c 0 0 Tryz.underlying37
 have HR:=Lib.hid hr
 clear hr
 cases A with
 | none =>
  go_enter Tryz.func66,Tryz.ntmps66
  go_wp2
  go_ret
  refine ⟨_,rfl,?_,Below.refl _ _⟩
  have:l=[]:=by
   rcases Nat.eq_zero_or_pos l.length with h | h
   ·exact List.length_eq_zero_iff.1 h
   ·obtain ⟨ad,h',_⟩:=Kd.at_string HR.out 0 (by omega) (by omega);cases h'
  subst this
  exact Kd.R_nil _ _ _ _ _
 | some ad =>
  go_enter Tryz.func66,Tryz.ntmps66
  go_wp2_with (at_builtin;refine Kd.R_append_row Value.string ByteArray.empty (h1:=fun _=>rfl) (w0:=w) w.heap.size rfl (.tmp 5) (.tmp 6) 37 9 (.string ⟨#[]⟩) 16 rfl Tryz.underlying37 info_str rfl (by decide) _ [] l (some ad) l.length c (fun _=>True) rfl rfl (fun _ _=>trivial) ?aO ?aR ?aB ?aS ?aL ?_;(case aO=>exact R_lit0 _ _ _ _ _ (Nat.le_refl _) (fun _ _=>trivial));(case aR=>exact Kd.C_below HR.out ((Below.refl _ _).alloc (Nat.le_refl _) _));(case aB=>exact (Below.refl _ _).alloc (Nat.le_refl _) _);(case aS=>simp);(case aL=>simp;omega);intro v1 w1 ho hb hg hat)
  go_ret
  exact ⟨_,rfl,ho,hb⟩
def both:List ByteArray→List ByteArray→Nat
 | x :: a,y :: b=>if x=y then both a b+1 else 0
 | _,_=>0
theorem both_le_left:∀ a b,both a b≤a.length
 | [],b=>by simp [both]
 | x :: a,[]=>by simp [both]
 | x :: a,y :: b=>by have:=both_le_left a b;simp only [both,List.length_cons];split <;> omega
theorem both_le_right:∀ a b,both a b≤b.length
 | [],b=>by simp [both]
 | x :: a,[]=>by simp [both]
 | x :: a,y :: b=>by have:=both_le_right a b;simp only [both,List.length_cons];split <;> omega
theorem toList_inj {x y:ByteArray}:x.toList=y.toList↔x=y:=by
 rw [Lib.toList_data,Lib.toList_data]
 constructor
 ·intro h
  exact ByteArray.ext (Array.toList_inj.1 h)
 ·rintro rfl;rfl
def Alike (a b:List ByteArray) (k:Nat):Prop:=∀ j:Nat,j<k→rdOf ByteArray.empty a (j:Int)=rdOf ByteArray.empty b (j:Int)
theorem both_of:∀ {a b:List ByteArray} {k:Nat},k≤a.length→k≤b.length→Alike a b k→(k<a.length→k<b.length→rdOf ByteArray.empty a (k:Int)≠rdOf ByteArray.empty b (k:Int))→both a b=k
 | [],_,k,h1,_,_,_=>by simp at h1;subst h1;simp [both]
 | x :: a,[],k,_,h2,_,_=>by simp at h2;subst h2;simp [both]
 | x :: a,y :: b,0,_,_,_,hn=>by
  have:=hn (by simp) (by simp)
  simp [rdOf] at this
  simp [both,this]
 | x :: a,y :: b,k+1,h1,h2,h,hn=>by
  have h0:=h 0 (by omega)
  simp [rdOf] at h0
  have:=both_of (a:=a) (b:=b) (k:=k) (by simpa using h1) (by simpa using h2) (fun j hj=>by
   have:=h (j+1) (by omega)
   simpa [rdOf] using this) (fun q1 q2=>by
   have:=hn (by simpa using q1) (by simpa using q2)
   simpa [rdOf] using this)
  simp [both,h0,this]
set_option maxHeartbeats 4000000 in
theorem alike_calls (A:Option Addr) (c:Nat) (a:List ByteArray) (B:Option Addr) (d:Nat) (b:List ByteArray) (w:World) (hr:Kd.C Kd.string w A a.length a) (hc:a.length≤c) (hs:Kd.C Kd.string w B b.length b) (hd:b.length≤d) (hl:a.length≤8796093022208) :
  Calls Tryz.prog 92 #[.slice A a.length c,.slice B b.length d] w fun e w'=>e=.returned (.int .i64 (both a b))∧∃ n,w'=w.drewN n:=by
 have HR:=Lib.hid hr
 have HS:=Lib.hid hs
 clear hr hs
 go_enter Tryz.func92,Tryz.ntmps92
 go_wp2
 go_loopw [5] (fun i wr=>∃ k n:Nat,k≤a.length∧k≤b.length∧i=.int .i64 k∧wr=w.drewN n∧Hid (Alike a b k)) (fun i _=>a.length - (RowKit.intOf i).toNat)
 case atStart=>exact ⟨0,0,by omega,by omega,rfl,rfl,Lib.hid (fun j hj=>by omega)⟩
 case round =>
  obtain ⟨k,n,hk1,hk2,rfl,rfl,HA⟩:=hrel
  by_cases q1:k<a.length
  ·have z1:decide ((k:Int)<(a.length:Int))=true:=decide_eq_true (by omega)
   by_cases q2:k<b.length
   ·have z2:decide ((k:Int)<(b.length:Int))=true:=decide_eq_true (by omega)
    obtain ⟨ad,rfl,hx⟩:=Kd.at_string HR.out (k:Int) (by omega) (by omega)
    obtain ⟨bd,rfl,hy⟩:=Kd.at_string HS.out (k:Int) (by omega) (by omega)
    rw [Int.toNat_natCast] at hx hy
    obtain ⟨x,hxe⟩:∃ x,rdOf ByteArray.empty a (k:Int)=x:=⟨_,rfl⟩
    obtain ⟨y,hye⟩:∃ y,rdOf ByteArray.empty b (k:Int)=y:=⟨_,rfl⟩
    rw [hxe] at hx
    rw [hye] at hy
    have HX:=Lib.hid hxe
    have HY:=Lib.hid hye
    clear hxe hye
    by_cases q3:x=y
    ·have z3:(x.toList == y.toList)=true:=beq_iff_eq.2 (toList_inj.2 q3)
     have H3:=Lib.hid q3
     clear q3
     go_wp2
     go_quiet (fail)
     go_wp2
     go_roundw
     case rel=>exact ⟨k+1,_,by omega,by omega,by go_num,by first | rfl | (simp only [World.drewN_drewN];rfl),Lib.hid (fun j hj=>by
      by_cases e:j=k
      ·subst e;rw [HX.out,HY.out];exact H3.out
      ·exact HA.out j (by omega))⟩
     case measure=>simp [RowKit.intOf];omega
    ·have z3:(x.toList == y.toList)=false:=beq_eq_false_iff_ne.2 (fun h=>q3 (toList_inj.1 h))
     have H3:=Lib.hid q3
     clear q3
     go_wp2
     go_quiet (fail)
     go_wp2
     go_ret
     exact ⟨by rw [both_of hk1 hk2 HA.out (fun _ _=>by rw [HX.out,HY.out];exact H3.out)];rfl,_,by first | rfl | (simp only [World.drewN_drewN];rfl)⟩
   ·have z2:decide ((k:Int)<(b.length:Int))=false:=decide_eq_false (by omega)
    go_wp2
    go_quiet (fail)
    go_wp2
    go_ret
    exact ⟨by rw [both_of hk1 hk2 HA.out (fun _ h=>absurd h q2)];rfl,_,by first | rfl | (simp only [World.drewN_drewN];rfl)⟩
  ·have z1:decide ((k:Int)<(a.length:Int))=false:=decide_eq_false (by omega)
   go_wp2
   go_quiet (fail)
   go_wp2
   go_ret
   exact ⟨by rw [both_of hk1 hk2 HA.out (fun h=>absurd h q1)];rfl,_,by first | rfl | (simp only [World.drewN_drewN];rfl)⟩
theorem cb_anti:∀ a b:List UInt8,compareBytes a b = - compareBytes b a
 | [],[]=>rfl
 | [],_ :: _=>rfl
 | _ :: _,[]=>rfl
 | x :: a,y :: b=>by
  have ih:=cb_anti a b
  unfold compareBytes
  by_cases h1:x<y
  ·have h2:¬ y<x:=by rw [UInt8.lt_iff_toNat_lt] at *;omega
   rw [if_pos h1,if_neg h2,if_pos h1]
  ·by_cases h2:y<x
   ·rw [if_neg h1,if_pos h2,if_pos h2]
    rfl
   ·rw [if_neg h1,if_neg h2,if_neg h2,if_neg h1]
    exact ih
theorem cb_zero:∀ {a b:List UInt8},compareBytes a b=0↔a=b
 | [],[]=>by simp [compareBytes]
 | [],_ :: _=>by simp [compareBytes]
 | _ :: _,[]=>by simp [compareBytes]
 | x :: a,y :: b=>by
  have ih:=cb_zero (a:=a) (b:=b)
  unfold compareBytes
  by_cases h1:x<y
  ·rw [if_pos h1]
   constructor
   ·intro h;cases h
   ·intro h;injection h with h3 _;rw [h3] at h1;exact absurd h1 (by rw [UInt8.lt_iff_toNat_lt];omega)
  ·by_cases h2:y<x
   ·rw [if_neg h1,if_pos h2]
    constructor
    ·intro h;cases h
    ·intro h;injection h with h3 _;rw [h3] at h2;exact absurd h2 (by rw [UInt8.lt_iff_toNat_lt];omega)
   ·rw [if_neg h1,if_neg h2,ih]
    have:x=y:=by rw [UInt8.lt_iff_toNat_lt] at h1 h2;exact UInt8.toNat_inj.1 (by omega)
    simp [this]
theorem cb_trans:∀ {a b c:List UInt8},compareBytes a b≤0→compareBytes b c≤0→compareBytes a c≤0
 | [],b,[],_,_=>by simp [compareBytes]
 | [],b,_ :: _,_,_=>by simp [compareBytes]
 | x :: a,[],c,h,_=>by simp [compareBytes] at h
 | x :: a,y :: b,[],_,h=>by simp [compareBytes] at h
 | x :: a,y :: b,z :: c,h1,h2=>by
  have ih:=cb_trans (a:=a) (b:=b) (c:=c)
  unfold compareBytes at h1 h2 ⊢
  simp only [UInt8.lt_iff_toNat_lt] at *
  by_cases e1:x.toNat<y.toNat
  ·rw [if_pos e1] at h1
   by_cases e2:y.toNat<z.toNat
   ·rw [if_pos (by omega)];decide
   ·rw [if_neg e2] at h2
    by_cases e3:z.toNat<y.toNat
    ·rw [if_pos e3] at h2;exact absurd h2 (by decide)
    ·rw [if_pos (by omega)];decide
  ·rw [if_neg e1] at h1
   by_cases e4:y.toNat<x.toNat
   ·rw [if_pos e4] at h1;exact absurd h1 (by decide)
   ·rw [if_neg e4] at h1
    by_cases e2:y.toNat<z.toNat
    ·rw [if_pos (by omega)];decide
    ·rw [if_neg e2] at h2
     by_cases e3:z.toNat<y.toNat
     ·rw [if_pos e3] at h2;exact absurd h2 (by decide)
     ·rw [if_neg e3] at h2
      rw [if_neg (by omega),if_neg (by omega)]
      exact ih h1 h2
def cmpP:List ByteArray→List ByteArray→Int
 | [],[]=>0
 | [],_ :: _ => -1
 | _ :: _,[]=>1
 | x :: a,y :: b=>if x=y then cmpP a b else compareBytes x.data.toList y.data.toList
theorem cmpP_both:∀ a b:List ByteArray,cmpP a b=if h:both a b<a.length∧both a b<b.length then compareBytes (a[both a b]'h.1).data.toList (b[both a b]'h.2).data.toList else compareInt a.length b.length
 | [],[]=>by simp [cmpP,both,compareInt]
 | [],y :: b=>by
  unfold cmpP
  rw [dif_neg (by simp),compareInt,if_pos (by simp)]
 | x :: a,[]=>by
  unfold cmpP
  rw [dif_neg (by simp),compareInt,if_neg (by simp;omega),if_pos (by simp)]
 | x :: a,y :: b=>by
  have ih:=cmpP_both a b
  unfold cmpP
  by_cases h:x=y
  ·rw [if_pos h,ih]
   have hb:both (x :: a) (y :: b)=both a b+1:=by rw [both,if_pos h]
   by_cases h2:both a b<a.length∧both a b<b.length
   ·rw [dif_pos h2,dif_pos (by rw [hb];simp only [List.length_cons];omega)]
    simp only [hb,List.getElem_cons_succ]
   ·rw [dif_neg h2,dif_neg (by rw [hb];simp only [List.length_cons];omega)]
    unfold compareInt
    simp only [List.length_cons]
    push_cast
    simp only [Int.add_lt_add_iff_right,gt_iff_lt]
  ·rw [if_neg h]
   have hb:both (x :: a) (y :: b)=0:=by rw [both,if_neg h]
   rw [dif_pos (by rw [hb];simp)]
   simp only [hb,List.getElem_cons_zero]
theorem data_eq {x y:ByteArray} (h:x.data.toList=y.data.toList):x=y:=by
 apply ByteArray.ext
 exact Array.toList_inj.1 h
theorem cmp_anti:∀ a b,cmpP a b = - cmpP b a
 | [],[]=>rfl
 | [],_ :: _=>rfl
 | _ :: _,[]=>rfl
 | x :: a,y :: b=>by
  unfold cmpP
  by_cases h:x=y
  ·rw [if_pos h,if_pos h.symm,cmp_anti a b]
  ·rw [if_neg h,if_neg (fun e=>h e.symm),cb_anti]
theorem cmp_zero:∀ {a b},cmpP a b=0↔a=b
 | [],[]=>by simp [cmpP]
 | [],_ :: _=>by simp [cmpP]
 | _ :: _,[]=>by simp [cmpP]
 | x :: a,y :: b=>by
  unfold cmpP
  by_cases h:x=y
  ·rw [if_pos h,cmp_zero]
   simp [h]
  ·rw [if_neg h,cb_zero]
   constructor
   ·intro e;exact absurd (data_eq e) h
   ·intro e;injection e with e1 _;exact absurd e1 h
theorem cmp_trans:∀ {a b c},cmpP a b≤0→cmpP b c≤0→cmpP a c≤0
 | [],b,[],_,_=>by simp [cmpP]
 | [],b,_ :: _,_,_=>by simp [cmpP]
 | x :: a,[],c,h,_=>by simp [cmpP] at h
 | x :: a,y :: b,[],_,h=>by simp [cmpP] at h
 | x :: a,y :: b,z :: c,h1,h2=>by
  unfold cmpP at h1 h2 ⊢
  by_cases e1:x=y
  ·rw [if_pos e1] at h1
   subst e1
   by_cases e2:x=z
   ·rw [if_pos e2] at h2 ⊢
    exact cmp_trans h1 h2
   ·rw [if_neg e2] at h2 ⊢
    exact h2
  ·rw [if_neg e1] at h1
   by_cases e2:y=z
   ·subst e2
    rw [if_neg e1]
    exact h1
   ·rw [if_neg e2] at h2
    have h3:=cb_trans h1 h2
    by_cases e3:x=z
    ·subst e3
     have h4:compareBytes y.data.toList x.data.toList = - compareBytes x.data.toList y.data.toList:=cb_anti _ _
     have h5:compareBytes x.data.toList y.data.toList=0:=by omega
     exact absurd (data_eq (cb_zero.1 h5)) e1
    ·rw [if_neg e3]
     exact h3
set_option maxHeartbeats 4000000 in
theorem compare_calls (A:Option Addr) (c:Nat) (a:List ByteArray) (B:Option Addr) (d:Nat) (b:List ByteArray) (w:World) (hr:Kd.C Kd.string w A a.length a) (hc:a.length≤c) (hs:Kd.C Kd.string w B b.length b) (hd:b.length≤d) (hl:a.length≤8796093022208) :
  Calls Tryz.prog 51 #[.slice A a.length c,.slice B b.length d] w fun e w'=>e=.returned (.int .i64 (cmpP a b))∧∃ n,w'=w.drewN n:=by
 have H1:=Lib.hid (alike_calls A c a B d b w hr hc hs hd hl)
 have HQ:=cmpP_both a b
 have hk1:=both_le_left a b
 have hk2:=both_le_right a b
 by_cases h:both a b<a.length∧both a b<b.length
 ·rw [dif_pos h] at HQ
  obtain ⟨ad,rfl,hx⟩:=Kd.at_string hr (both a b:Int) (by omega) (by omega)
  obtain ⟨bd,rfl,hy⟩:=Kd.at_string hs (both a b:Int) (by omega) (by omega)
  rw [Int.toNat_natCast] at hx hy
  have he:rdOf ByteArray.empty a (both a b:Int)=a[both a b]'h.1:=by simp [rdOf,h.1]
  have he2:rdOf ByteArray.empty b (both a b:Int)=b[both a b]'h.2:=by simp [rdOf,h.2]
  rw [he] at hx
  rw [he2] at hy
  clear he he2
  obtain ⟨h3,h4⟩:=h
  generalize a[both a b]'h3=x at *
  generalize b[both a b]'h4=y at *
  have HC:=Lib.hid (fun W=>Tryz.strings_Compare x y W)
  have HQ2:=Lib.hid HQ
  clear HQ hr hs hk1 hk2
  generalize compareBytes x.data.toList y.data.toList=r at *
  generalize both a b=k at *
  have g1:decide ((k:Int)<(a.length:Int))=true:=decide_eq_true (by omega)
  have g2:decide ((k:Int)<(b.length:Int))=true:=decide_eq_true (by omega)
  have g3:(k:Int)<(a.length:Int):=by omega
  have g4:(k:Int)<(b.length:Int):=by omega
  go_enter Tryz.func51,Tryz.ntmps51
  go_wp2_with fail
  refine H1.out.mono ?_
  rintro e w1 ⟨rfl,n1,rfl⟩
  go_wp2_with fail
  go_quiet ((go_at_call 93;exact qcall (HC.out _)))
  all_goals
   go_wp2_with fail
   go_ret
   first | exact ⟨by rw [HQ2.out];rfl,_,rfl⟩ | exact ⟨by rw [HQ2.out];rfl,_,World.drewN_drewN _ _ _⟩
 ·rw [dif_neg h] at HQ
  have HQ2:=Lib.hid HQ
  have HC:=Lib.hid (fun W=>Tryz.cmp_Compare_int (a.length:Int) (b.length:Int) W)
  clear HQ hr hs
  generalize compareInt (a.length:Int) (b.length:Int)=r at *
  generalize both a b=k at *
  go_enter Tryz.func51,Tryz.ntmps51
  go_wp2_with fail
  refine H1.out.mono ?_
  rintro e w1 ⟨rfl,n1,rfl⟩
  by_cases h1:k<a.length
  ·have h2:¬ k<b.length:=fun h2=>h ⟨h1,h2⟩
   have g1:decide ((k:Int)<(a.length:Int))=true:=decide_eq_true (by omega)
   have g2:decide ((k:Int)<(b.length:Int))=false:=decide_eq_false (by omega)
   have g3:(k:Int)<(a.length:Int):=by omega
   have g4:¬ (k:Int)<(b.length:Int):=by omega
   go_wp2_with fail
   refine (HC.out _).mono ?_
   rintro e w2 ⟨rfl,hw2⟩
   rw [hw2]
   go_wp2_with fail
   go_ret
   exact ⟨by rw [HQ2.out];rfl,n1,rfl⟩
  ·have g1:decide ((k:Int)<(a.length:Int))=false:=decide_eq_false (by omega)
   have g3:¬ (k:Int)<(a.length:Int):=by omega
   go_wp2_with fail
   refine (HC.out _).mono ?_
   rintro e w2 ⟨rfl,hw2⟩
   rw [hw2]
   go_wp2_with fail
   go_ret
   exact ⟨by rw [HQ2.out];rfl,n1,rfl⟩
end Go.Proofs.YtdnhjnlhmfajnaaGreatDoor.G
end
section
namespace Go.Proofs.YtdnhjnlhmfajnaaGreatDoor.G
open Go.RowKit Go.Lib Go.Proofs.YtdnhjnlhmfajnaaGreatDoorW.PrintWords Go.Proofs.YtdnhjnlhmfajnaaGreatDoorW.PrintLast
set_option linter.unusedVariables false
structure File where
 name:ByteArray
 kind:Int
 data:ByteArray
 files:List File
def FileF (d:Kd File):Kd File:=Kd.iso (Kd.pair Kd.string (Kd.pair (Kd.int .u8) (Kd.pair Kd.string (Kd.slice 25 d)))) (fun x:File=>(x.name,x.kind,x.data,x.files))
theorem fileMono:Kd.Mono FileF:=Kd.mono_iso _ (Kd.mono_pair (Kd.mono_const _) (Kd.mono_pair (Kd.mono_const _) (Kd.mono_pair (Kd.mono_const _) (Kd.mono_slice 25 Kd.mono_id))))
theorem fileSub:Kd.Sub FileF [25]:=Kd.sub_iso _ (Kd.sub_pair (Kd.sub_const _ (by decide)) (Kd.sub_pair (Kd.sub_const _ (by decide)) (Kd.sub_pair (Kd.sub_const _ (by decide)) (Kd.sub_slice 25 (by decide) Kd.sub_id))))
theorem fileSz:∀ n,(Kd.upto FileF 4 [25] n).sz=4:=Kd.upto_sz (fun _=>rfl)
def FileK:Kd File:=Kd.fix FileF 4 [25] fileSz (Kd.upto_E fileSub)
theorem file_open {w:World} {x:File} {cs:List Value} (h:FileK.K w x cs):∃ A c,cs=[.string x.name,.int .u8 x.kind,.string x.data,.slice A x.files.length c]∧x.files.length≤c∧FileK.C w A x.files.length x.files:=by
 obtain ⟨n,h⟩:=h
 cases n with
 | zero=>exact h.elim
 | succ n =>
  obtain ⟨_,_,rfl,rfl,⟨_,_,rfl,rfl,⟨_,_,rfl,rfl,⟨A,c,rfl,l,g⟩⟩⟩⟩:=h
  exact ⟨A,c,rfl,l,Kd.fix_C g⟩
theorem file_mk (w:World) (x:File) {A:Option Addr} {c:Nat} (l:x.files.length≤c) (g:FileK.C w A x.files.length x.files):FileK.K w x [.string x.name,.int .u8 x.kind,.string x.data,.slice A x.files.length c]:=by
 obtain ⟨n,q⟩:=Kd.fix_C_back fileMono g
 exact ⟨n+1,⟨[.string x.name],[.int .u8 x.kind,.string x.data,.slice A x.files.length c],rfl,rfl,⟨[.int .u8 x.kind],[.string x.data,.slice A x.files.length c],rfl,rfl,⟨[.string x.data],[.slice A x.files.length c],rfl,rfl,⟨A,c,rfl,l,q⟩⟩⟩⟩⟩
theorem file_mkM (w:World) (base:Nat) (ok:Nat→Prop) (x:File) {v:Value} (g:FileK.R 25 w base ok v x.files):FileK.M w base ok x [.string x.name,.int .u8 x.kind,.string x.data,v]:=by
 obtain ⟨n,q⟩:=Kd.fix_R_back fileMono g
 exact ⟨n+1,⟨[.string x.name],[.int .u8 x.kind,.string x.data,v],rfl,rfl,⟨[.int .u8 x.kind],[.string x.data,v],rfl,rfl,⟨[.string x.data],[v],rfl,rfl,⟨v,rfl,q⟩⟩⟩⟩⟩
def zeroF:File:=⟨⟨#[]⟩,0,⟨#[]⟩,[]⟩
theorem file_at {w:World} {A:Option Addr} {xs:List File} (h:FileK.C w A xs.length xs) (k:Nat) (hk:k<xs.length) :
  ∃ ad A' c',A=some ad∧w.cell? (ad.add (k * 4))=some (.string xs[k].name)∧w.cell? ⟨(ad.add (k * 4)).block,(ad.add (k * 4)).off+1,none⟩=some (.int .u8 xs[k].kind)
   ∧ w.cell? ⟨(ad.add (k * 4)).block,(ad.add (k * 4)).off+2,none⟩=some (.string xs[k].data)∧w.cell? ⟨(ad.add (k * 4)).block,(ad.add (k * 4)).off+3,none⟩=some (.slice A' xs[k].files.length c')
   ∧ xs[k].files.length≤c'∧FileK.C w A' xs[k].files.length xs[k].files:=by
 obtain ⟨ad,c,e,_,hK,hc0⟩:=Kd.C_get h zeroF (k:Int) (by omega) (by omega)
 rw [Int.toNat_natCast] at hc0 hK
 have hg:xs.getD k zeroF=xs[k]:=by simp [List.getD,hk]
 rw [hg] at hK
 have hc:∀ j u,c[j]? = some u→w.cell? (ad.add (k * 4+j))=some u:=hc0
 obtain ⟨A',c',rfl,l,g⟩:=file_open hK
 exact ⟨ad,A',c',e,hc 0 _ rfl,by rw [← add_field _ _ 1 (by omega)];exact hc 1 _ rfl,by rw [← add_field _ _ 2 (by omega)];exact hc 2 _ rfl,by rw [← add_field _ _ 3 (by omega)];exact hc 3 _ rfl,l,g⟩
def File.bulk:File→Nat
 | ⟨n,_,d,l⟩=>4+n.size+d.size+(l.attach.map fun ⟨x,_⟩=>x.bulk).sum
def bulkL (l:List File):Nat:=(l.map File.bulk).sum
theorem bulk_eq (x:File):x.bulk=4+x.name.size+x.data.size+bulkL x.files:=by
 cases x with
 | mk n k d l =>
  have h:(l.attach.map fun x=>x.1.bulk)=l.map File.bulk:=by
   conv=>rhs;rw [← List.attach_map_subtype_val l,List.map_map]
   rfl
  show File.bulk _=_
  rw [File.bulk]
  show 4+n.size+d.size+(l.attach.map fun x=>x.1.bulk).sum=_
  rw [h]
  rfl
theorem bulkL_mem {l:List File} {x:File} (h:x∈l):x.bulk≤bulkL l:=by
 induction l with
 | nil=>cases h
 | cons y l ih =>
  simp only [bulkL,List.map_cons,List.sum_cons]
  rcases List.mem_cons.1 h with rfl | h
  ·omega
  ·have:=ih h;simp only [bulkL] at this;omega
theorem bulk_child {f x:File} (h:x∈f.files):x.bulk+4≤f.bulk:=by
 have h1:=bulkL_mem h
 have h2:=bulk_eq f
 omega
theorem bulkL_len (l:List File):4 * l.length≤bulkL l:=by
 induction l with
 | nil=>simp [bulkL]
 | cons y l ih =>
  have:=bulk_eq y
  simp only [bulkL,List.map_cons,List.sum_cons,List.length_cons] at *
  omega
abbrev fc (x : File) (A : Option Addr) (c : Nat) : Array Value := #[.string x.name, .int .u8 x.kind, .string x.data, .slice A x.files.length c]
end Go.Proofs.YtdnhjnlhmfajnaaGreatDoor.G
end
