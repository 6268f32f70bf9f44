import Derived.Test.YtdnhjnlhmfajnaaGreatDoorTTold
import Derived.Laws.Rows
set_option linter.unusedVariables false
set_option linter.unusedSimpArgs false
namespace Go.Proofs.YtdnhjnlhmfajnaaGreatDoor.G
open Go.RowKit Go.Lib Go.Proofs.YtdnhjnlhmfajnaaGreatDoorW.PrintWords Go.Proofs.YtdnhjnlhmfajnaaGreatDoorW.PrintLast
set_option linter.unusedVariables false
def fourB (b:Nat):Bool:=(toldB (UInt8.ofNat b)).length == 4
def goesB (n k:Nat):Bool:=(List.range 256).any fun b=>fourB b && b / 8 ^ (2 - k) == n
def octR:Nat→Nat→List UInt8→Option Nat
 | 0,n,_=>some n
 | _+1,_,[]=>none
 | r+1,n,d :: l=>if 48≤d.toNat∧d.toNat≤55∧goesB (8 * n+(d.toNat - 48)) (2 - r)=true then octR r (8 * n+(d.toNat - 48)) l else none
def escL (d:UInt8):Option UInt8:=if d=92 then some 92 else ((List.range 14).find? fun x=>shortL.getD x 0 != 0 && shortL.getD x 0 == d).map UInt8.ofNat
def oneL:List UInt8→Option (UInt8×Nat)
 | []=>none
 | c :: r=>if c=92 then (match r with
  | []=>none
  | d :: _=>if d=34 then some (34,2) else match escL d with
   | some b=>some (b,2)
   | none=>(octR 3 0 r).map fun n=>(UInt8.ofNat n,4)) else if 32≤c.toNat∧c.toNat<127∧c.toNat≠34 then some (c,1) else none
theorem goes_of (n k:Nat) (lo:Nat) (h:∀ b,lo≤b→b<256→b / 8 ^ (2 - k)=n→fourB b=false) (h0:∀ b,b<lo→b / 8 ^ (2 - k)=n→fourB b=false):goesB n k=false:=by
 unfold goesB
 rw [List.any_eq_false]
 intro b hb
 simp only [Bool.and_eq_true,beq_iff_eq]
 rintro ⟨h1,h2⟩
 have hb':=List.mem_range.1 hb
 rcases Nat.lt_or_ge b lo with h3 | h3
 ·rw [h0 b h3 h2] at h1
  cases h1
 ·rw [h b h3 hb' h2] at h1
  cases h1
theorem goes_yes {n k b:Nat} (hb:b<256) (h:b / 8 ^ (2 - k)=n) (hf:fourB b=true):goesB n k=true:=by
 unfold goesB
 rw [List.any_eq_true]
 exact ⟨b,List.mem_range.2 hb,by simp [hf,h]⟩
theorem Tab_b {w W:World} (h:Tab w) (hb:Below w.heap.size w W):Tab W:=fun i hi=>(hb.cell (World.block_lt_of_cell? w _ (h i hi))).trans (h i hi)
set_option maxHeartbeats 4000000 in
set_option maxRecDepth 100000 in
theorem goes_calls (n k:Nat) (w:World) (hk:k≤2) (hn:n<4096) (hG:Tab w) :
  Calls Tryz.prog 154 #[.int .i64 n,.int .i64 k] w fun e w'=>e=.returned (.bool (goesB n k))∧Below w.heap.size w w':=by
 have HG:=Lib.hid hG
 have HT:=Lib.hid (fun x W h=>told_calls x W h)
 have hQ:goesB n k=goesB n k:=rfl
 generalize hgb:goesB n k=gb at hQ ⊢
 have HGB:=Lib.hid hgb
 clear hG hgb hQ
 go_enter Tryz.func154,Tryz.ntmps154
 go_wp2_with fail
 go_loop [1,5,6] (fun vk vl vh=>∃ j:Nat,k≤j∧j≤2∧vk=.int .i64 j∧vl=.int .i64 ((n * 8 ^ (j - k):Nat):Int)∧vh=.int .i64 ((n * 8 ^ (j - k)+8 ^ (j - k) - 1:Nat):Int)) (fun vk _ _=>2 - (RowKit.intOf vk).toNat)
 case atStart=>exact ⟨k,Nat.le_refl _,hk,rfl,by simp,by simp⟩
 case round =>
  obtain ⟨j,hkj,hj,rfl,rfl,rfl⟩:=hrel
  by_cases hlt:j<2
  ·obtain ⟨m,hm⟩:∃ m,8 ^ (j - k)=m:=⟨_,rfl⟩
   have hm2:8 ^ (j+1 - k)=8 * m:=by rw [show j+1 - k=(j - k)+1 by omega,Nat.pow_succ,hm,Nat.mul_comm]
   have hm64:m≤64:=by
    rw [← hm]
    exact Nat.le_trans (Nat.pow_le_pow_right (by decide) (show j - k≤2 by omega)) (by decide)
   have hm1:1≤m:=by rw [← hm];exact Nat.pow_pos (by decide)
   rw [hm]
   obtain ⟨q,hq⟩:∃ q,n * m=q:=⟨_,rfl⟩
   have hq2:n * (8 * m)=8 * q:=by rw [← hq,Nat.mul_left_comm]
   have hqb:q≤262144:=by
    rw [← hq]
    exact Nat.le_trans (Nat.mul_le_mul (Nat.le_of_lt hn) hm64) (by decide)
   rw [hq]
   obtain ⟨h,hh⟩:∃ h,q+m - 1=h:=⟨_,rfl⟩
   rw [hh]
   have HM:=Lib.hid hm2
   have HQ:=Lib.hid hq2
   have hh2:8 * q+8 * m - 1=8 * h+7:=by omega
   have hhb:h≤262208:=by omega
   have HH:=Lib.hid hh2
   clear hm2 hq2 hh2 hm hq hh
   have g1:(j:Int)<2:=by omega
   go_wp2_with fail
   go_round
   case rel=>exact ⟨j+1,by omega,by omega,by go_num,by rw [HM.out,HQ.out];go_num,by rw [HM.out,HQ.out,HH.out];go_num⟩
   case measure=>simp [RowKit.intOf];omega
  ·obtain rfl:j=2:=by omega
   obtain ⟨m,hm⟩:∃ m,8 ^ (2 - k)=m:=⟨_,rfl⟩
   have hm64:m≤64:=by
    rw [← hm]
    exact Nat.le_trans (Nat.pow_le_pow_right (by decide) (show 2 - k≤2 by omega)) (by decide)
   have hm1:1≤m:=by rw [← hm];exact Nat.pow_pos (by decide)
   rw [hm]
   obtain ⟨q,hq⟩:∃ q,n * m=q:=⟨_,rfl⟩
   have hqb:q≤262144:=by
    rw [← hq]
    exact Nat.le_trans (Nat.mul_le_mul (Nat.le_of_lt hn) hm64) (by decide)
   have HD:Hid (∀ b,b / 8 ^ (2 - k)=n↔q≤b∧b<q+m):=Lib.hid fun b=>by
    rw [hm,Nat.div_eq_iff (by omega),hq]
    omega
   rw [hq]
   obtain ⟨h,hh⟩:∃ h,q+m - 1=h:=⟨_,rfl⟩
   rw [hh]
   have hhb:h≤262208:=by omega
   have HH:Hid (q+m=h+1):=Lib.hid (by omega)
   clear hm hq hh hm64 hm1
   go_wp2_with fail
   go_loopw [7] (fun vc wr=>∃ c:Nat,q≤c∧vc=.int .i64 c∧c≤262209∧Below w.heap.size w wr∧Hid (∀ b,q≤b→b<c→fourB b=false)) (fun vc _=>262300 - (RowKit.intOf vc).toNat)
   case atStart=>exact ⟨q,Nat.le_refl _,rfl,by omega,Below.refl _ _,Lib.hid fun b h1 h2=>by omega⟩
   case round =>
    obtain ⟨c,hqc,rfl,hcb,hb,HN⟩:=hrel
    by_cases h1:c≤h
    ·by_cases h2:c<256
     ·have hc8:(UInt8.ofNat c).toNat=c:=by simp;omega
      have HX:=Lib.hid (HT.out (UInt8.ofNat c) wr (Tab_b HG.out hb))
      rw [hc8] at HX
      have hcw:IntKind.u8.wrap (c:Int)=(c:Int):=IntWalk.u8_in (c:Int) ⟨by omega,by omega⟩
      have g1:(c:Int)≤(h:Int):=by omega
      have g2:(c:Int)<256:=by omega
      have HF:Hid (fourB c=((toldB (UInt8.ofNat c)).length == 4)):=Lib.hid rfl
      clear hc8
      go_wp2_with fail
      refine HX.out.mono ?_
      rintro e w1 ⟨rfl,hb1⟩
      have hb':=bstep hb hb.size hb1
      cases hf:fourB c
      ·have hf2:=HF.out
       rw [hf] at hf2
       have HN2:Hid (∀ b,q≤b→b<c+1→fourB b=false):=Lib.hid fun b h1 h2=>by
        rcases Nat.lt_or_ge b c with h3 | h3
        ·exact HN.out b h1 h3
        ·obtain rfl:b=c:=by omega
         exact hf
       have hl4:(((toldB (UInt8.ofNat c)).length:Int) == 4)=false:=by
        have h5:¬ ((toldB (UInt8.ofNat c)).length=4):=by simpa using hf2.symm
        rw [beq_eq_false_iff_ne];intro h6;exact h5 (by exact_mod_cast h6)
       clear hf2 HF HN
       generalize toldB (UInt8.ofNat c)=tl at *
       go_wp2_with fail
       go_roundw
       case rel=>exact ⟨c+1,by omega,by go_num,by omega,hb',HN2⟩
       case measure=>simp [RowKit.intOf];omega
      ·have hf2:=HF.out
       rw [hf] at hf2
       have hl4:(((toldB (UInt8.ofNat c)).length:Int) == 4)=true:=by
        have h5:((toldB (UInt8.ofNat c)).length=4):=by simpa using hf2.symm
        rw [h5];rfl
       have hgt:gb=true:=by
        rw [← HGB.out]
        exact goes_yes h2 ((HD.out c).2 ⟨hqc,by have:=HH.out;omega⟩) hf
       subst hgt
       clear hf2 HF HN
       generalize toldB (UInt8.ofNat c)=tl at *
       go_wp2_with fail
       go_ret
       exact ⟨rfl,hb'⟩
     ·have hgt:gb=false:=by
       rw [← HGB.out]
       refine goes_of n k c (fun b h3 h4 h5=>by omega) (fun b h3 h5=>HN.out b ((HD.out b).1 h5).1 h3)
      subst hgt
      have g1:(c:Int)≤(h:Int):=by omega
      have g2:¬ ((c:Int)<256):=by omega
      go_wp2_with fail
      go_ret
      exact ⟨rfl,hb⟩
    ·have hgt:gb=false:=by
      rw [← HGB.out]
      refine goes_of n k c (fun b h3 h4 h5=>by have:=((HD.out b).1 h5).2;have:=HH.out;omega) (fun b h3 h5=>HN.out b ((HD.out b).1 h5).1 h3)
     subst hgt
     have g1:¬ ((c:Int)≤(h:Int)):=by omega
     go_wp2_with fail
     go_ret
     exact ⟨rfl,hb⟩
theorem drop_cons {s:ByteArray} {i:Nat} (h:i<s.size):s.data.toList.drop i=s[i] :: s.data.toList.drop (i+1) :=
 List.drop_eq_getElem_cons (by rw [Array.length_toList];exact h)
theorem one_plain {c:UInt8} {r:List UInt8} (h:c≠92):oneL (c :: r)=if 32≤c.toNat∧c.toNat<127∧c.toNat≠34 then some (c,1) else none:=by
 show (if c=92 then _ else (if 32≤c.toNat∧c.toNat<127∧c.toNat≠34 then some (c,1) else none))=_
 rw [if_neg h]
theorem one_esc {r:List UInt8} {d:UInt8}:oneL (92 :: d :: r)=if d=34 then some (34,2) else match escL d with
   | some b=>some (b,2)
   | none=>(octR 3 0 (d :: r)).map fun n=>(UInt8.ofNat n,4):=rfl
def OneA (s:ByteArray) (i:Nat) (e:Ending):Prop :=
 (∃ b m,oneL (s.data.toList.drop i)=some (b,m)∧e=.returned (.tuple #[.int .u8 (b:UInt8).toNat,.int .i64 ((i+m:Nat):Int),.int .i64 (-1)]))∨(oneL (s.data.toList.drop i)=none∧∃ a m:Nat,e=.returned (.tuple #[.int .u8 0,.int .i64 a,.int .i64 m]))
theorem find_range:∀ (n k:Nat) (h:k<n) (p:Nat→Bool),p k=true→(∀ x,x<k→p x=false)→(List.range n).find? p=some k:=by
 intro n k h p hk hx
 rw [List.find?_eq_some_iff_getElem]
 refine ⟨hk,k,by simpa using h,by simp,fun j hj => ?_⟩
 simp [hx j hj]
theorem find_range_none (n:Nat) (p:Nat→Bool) (h:∀ x,x<n→p x=false):(List.range n).find? p=none:=by
 rw [List.find?_eq_none]
 intro x hx
 simp [h x (List.mem_range.1 hx)]
theorem index_short (k:Nat) (hk:k<14) (W:World):(Instr.index 163 (.agg #[Value.int IntKind.u8 0,Value.int IntKind.u8 0,Value.int IntKind.u8 0,Value.int IntKind.u8 0,Value.int IntKind.u8 0,Value.int IntKind.u8 0,Value.int IntKind.u8 0,Value.int IntKind.u8 97,Value.int IntKind.u8 98,Value.int IntKind.u8 116,Value.int IntKind.u8 110,Value.int IntKind.u8 118,Value.int IntKind.u8 102,Value.int IntKind.u8 114]) (.int .i64 (k:Int))).run Tryz.prog W=.ok (.int .u8 (shortL.getD k 0).toNat) W:=by
 have h:k=0∨k=1∨k=2∨k=3∨k=4∨k=5∨k=6∨k=7∨k=8∨k=9∨k=10∨k=11∨k=12∨k=13:=by omega
 rcases h with rfl | rfl | rfl | rfl | rfl | rfl | rfl | rfl | rfl | rfl | rfl | rfl | rfl | rfl
 all_goals (show Sem.run _ _ _=_;kernel_rfl)
set_option maxHeartbeats 8000000 in
set_option maxRecDepth 100000 in
theorem one_calls (s:ByteArray) (i:Nat) (w:World) (hi:i<s.size) (hs:s.size≤1099511627776) (hG:Tab w) :
  Calls Tryz.prog 119 #[.string s,.int .i64 i,.bool true] w fun e w'=>OneA s i e∧Below w.heap.size w w':=by
 have HG:=Lib.hid hG
 have HGO:=Lib.hid (fun n k W h1 h2 h3=>goes_calls n k W h1 h2 h3)
 have hdr:=drop_cons hi
 obtain ⟨c,hc⟩:∃ c,s[i]=c:=⟨_,rfl⟩
 rw [hc] at hdr
 have HDR:=Lib.hid hdr
 have hlt:=c.toNat_lt
 clear hG hdr
 go_enter Tryz.func119,Tryz.ntmps119
 by_cases h92:c=92
 ·subst h92
  by_cases hi1:i+1<s.size
  ·obtain ⟨d,hd⟩:∃ d,s[i+1]=d:=⟨_,rfl⟩
   have hdr1:=drop_cons hi1
   rw [hd] at hdr1
   have HDE:=Lib.hid (show oneL (s.data.toList.drop i)=_ by rw [HDR.out,hdr1,one_esc])
   clear hdr1
   obtain ⟨i1,hi1e⟩:∃ i1,i1=i+1:=⟨_,rfl⟩
   have hi1n:((i:Int)+1)=(i1:Int):=by omega
   have HI1:=Lib.hid hi1e
   obtain ⟨hlt1,hd'⟩:∃ h:i1<s.size,s[i1]=d:=⟨by omega,by subst hi1e;exact hd⟩
   have hi1l:(i1:Int)<(s.size:Int):=by omega
   have hne:((i1:Int) == (s.size:Int))=false:=by rw [beq_eq_false_iff_ne];omega
   clear hd hi1e
   by_cases d34:d=34
   ·subst d34
    rw [if_pos rfl] at HDE
    go_wp2_with fail
    refine bodyPost_ret (results_tmp3 rfl _ _ _) rfl ?_
    exact ⟨.inl ⟨34,2,HDE.out,by have:=HI1.out;subst this;rfl⟩,Below.refl _ _⟩
   ·rw [if_neg d34] at HDE
    by_cases d92:d=92
    ·subst d92
     go_wp2_with fail
     refine bodyPost_ret (results_tmp3 rfl _ _ _) rfl ?_
     exact ⟨.inl ⟨92,2,HDE.out,by have:=HI1.out;subst this;rfl⟩,Below.refl _ _⟩
    ·have c92:((d.toNat:Int) == 92)=false:=by rw [beq_eq_false_iff_ne];intro h;exact d92 (UInt8.toNat_inj.1 (by exact_mod_cast h))
     have c34:((d.toNat:Int) == 34)=false:=by rw [beq_eq_false_iff_ne];intro h;exact d34 (UInt8.toNat_inj.1 (by exact_mod_cast h))
     have HES:Hid (escL d=((List.range 14).find? fun x=>shortL.getD x 0 != 0 && shortL.getD x 0 == d).map UInt8.ofNat):=Lib.hid (by rw [escL,if_neg d92])
     have t0:w.cell? ⟨0,0,none⟩=some (.int .u8 0):=HG.out 0 (by decide)
     have t1:w.cell? ⟨0,1,none⟩=some (.int .u8 0):=HG.out 1 (by decide)
     have t2:w.cell? ⟨0,2,none⟩=some (.int .u8 0):=HG.out 2 (by decide)
     have t3:w.cell? ⟨0,3,none⟩=some (.int .u8 0):=HG.out 3 (by decide)
     have t4:w.cell? ⟨0,4,none⟩=some (.int .u8 0):=HG.out 4 (by decide)
     have t5:w.cell? ⟨0,5,none⟩=some (.int .u8 0):=HG.out 5 (by decide)
     have t6:w.cell? ⟨0,6,none⟩=some (.int .u8 0):=HG.out 6 (by decide)
     have t7:w.cell? ⟨0,7,none⟩=some (.int .u8 97):=HG.out 7 (by decide)
     have t8:w.cell? ⟨0,8,none⟩=some (.int .u8 98):=HG.out 8 (by decide)
     have t9:w.cell? ⟨0,9,none⟩=some (.int .u8 116):=HG.out 9 (by decide)
     have t10:w.cell? ⟨0,10,none⟩=some (.int .u8 110):=HG.out 10 (by decide)
     have t11:w.cell? ⟨0,11,none⟩=some (.int .u8 118):=HG.out 11 (by decide)
     have t12:w.cell? ⟨0,12,none⟩=some (.int .u8 102):=HG.out 12 (by decide)
     have t13:w.cell? ⟨0,13,none⟩=some (.int .u8 114):=HG.out 13 (by decide)
     clear d34 d92
     go_wp2_with fail
     clear t0 t1 t2 t3 t4 t5 t6 t7 t8 t9 t10 t11 t12 t13
     go_loop [62] (fun v=>∃ k:Nat,k≤14∧v=.int .i64 k∧Hid (∀ x,x<k→(shortL.getD x 0 != 0 && shortL.getD x 0 == d)=false)) (fun v=>14 - (RowKit.intOf v).toNat)
     case atStart=>exact ⟨0,by omega,rfl,Lib.hid fun x h=>by omega⟩
     case round =>
      obtain ⟨k,hk,rfl,HK⟩:=hrel
      by_cases hlt:k<14
      ·have g1:(k:Int)<14:=by omega
       have hix:=index_short k hlt
       obtain ⟨y,hyk⟩:∃ y,shortL.getD k 0=y:=⟨_,rfl⟩
       rw [hyk] at hix
       have HY:=Lib.hid hyk
       clear hyk
       by_cases hy:y=d∧y≠0
       ·obtain ⟨rfl,hy0⟩:=hy
        have hz:((y.toNat:Int) != 0)=true:=by rw [bne_iff_ne];intro h;exact hy0 (UInt8.toNat_inj.1 (by exact_mod_cast h))
        have HF:Hid (escL y=some (UInt8.ofNat k)):=Lib.hid (by
         rw [HES.out,find_range 14 k hlt _ (by rw [HY.out];simp [hy0]) HK.out]
         rfl)
        rw [HF.out] at HDE
        have hkw:IntKind.u8.wrap (k:Int)=(k:Int):=IntWalk.u8_in (k:Int) ⟨by omega,by omega⟩
        have hk8:((UInt8.ofNat k).toNat:Int)=(k:Int):=by simp;omega
        go_wp2_with fail
        refine bodyPost_ret (results_tmp3 rfl _ _ _) rfl ?_
        exact ⟨.inl ⟨UInt8.ofNat k,2,HDE.out,by rw [hk8];have:=HI1.out;subst this;rfl⟩,Below.refl _ _⟩
       ·have HK2:Hid (∀ x,x<k+1→(shortL.getD x 0 != 0 && shortL.getD x 0 == d)=false):=Lib.hid (fun x hx=>by
         rcases Nat.lt_or_ge x k with h3 | h3
         ·exact HK.out x h3
         ·obtain rfl:x=k:=by omega
          rw [HY.out]
          cases h1:y != 0
          ·rfl
          ·cases h2:y == d
           ·rfl
           ·exact absurd ⟨eq_of_beq h2,by simpa using h1⟩ hy)
        by_cases hy0:y=0
        ·subst hy0
         clear HK hy
         go_wp2_with fail
         go_round
         case rel=>exact ⟨k+1,by omega,by go_num,HK2⟩
         case measure=>simp [RowKit.intOf];omega
        ·have hz:((y.toNat:Int) != 0)=true:=by rw [bne_iff_ne];intro h;exact hy0 (UInt8.toNat_inj.1 (by exact_mod_cast h))
         have hyd:((y.toNat:Int) == (d.toNat:Int))=false:=by rw [beq_eq_false_iff_ne];intro h;exact hy ⟨UInt8.toNat_inj.1 (by exact_mod_cast h),hy0⟩
         clear HK hy hy0
         go_wp2_with fail
         go_round
         case rel=>exact ⟨k+1,by omega,by go_num,HK2⟩
         case measure=>simp [RowKit.intOf];omega
      ·obtain rfl:k=14:=by omega
       have HEN:Hid (escL d=none):=Lib.hid (by rw [HES.out,find_range_none 14 _ HK.out];rfl)
       rw [HEN.out] at HDE
       clear HES HK HEN
       have HD1:=Lib.hid (show s.data.toList.drop i1=d :: s.data.toList.drop (i+1+1) by
        have h:=drop_cons hlt1
        rw [hd'] at h
        rw [h,HI1.out])
       rw [← HD1.out] at HDE
       clear HD1 c92 c34 hd' hne
       go_wp2_with fail
       go_loopw [12,78] (fun vn vk wr=>∃ k n:Nat,k≤3∧i1+k≤s.size∧vn=.int .i64 n∧vk=.int .i64 k∧n<512∧Hid (n<8 ^ k)∧Hid (k=3→n<256)∧Below w.heap.size w wr∧Hid (octR 3 0 (s.data.toList.drop i1)=octR (3 - k) n (s.data.toList.drop (i1+k)))) (fun _ vk _=>3 - (RowKit.intOf vk).toNat)
       case atStart=>exact ⟨0,0,by omega,by omega,rfl,rfl,by omega,Lib.hid (by decide),Lib.hid (fun h=>by omega),Below.refl _ _,Lib.hid rfl⟩
       case round =>
        obtain ⟨k,n,hk,hik,rfl,rfl,hn,HN,HN3,hb,HOC⟩:=hrel
        by_cases hk3:k<3
        ·obtain ⟨r,hr⟩:∃ r,3 - k=r+1:=⟨2 - k,by omega⟩
         obtain ⟨m,hm⟩:∃ m,m=i1+k:=⟨_,rfl⟩
         have hmi:(i1:Int)+(k:Int)=(m:Int):=by omega
         have g1:(k:Int)<3:=by omega
         have HM:=Lib.hid hm
         have hml:m≤s.size:=by omega
         rw [hr,← hm] at HOC
         clear hm
         by_cases hms:m=s.size
         ·have hme:((m:Int) == (s.size:Int))=true:=by rw [hms];simp
          have HNO:Hid (oneL (s.data.toList.drop i)=none):=Lib.hid (by
           rw [HDE.out,HOC.out,List.drop_of_length_le (by rw [hms,Array.length_toList];exact Nat.le_refl _)]
           rfl)
          clear hms HOC HDE
          go_wp2_with fail
          refine bodyPost_ret (results_tmp3 rfl _ _ _) rfl ?_
          exact ⟨.inr ⟨HNO.out,m,m,rfl⟩,hb⟩
         ·have hmlt:m<s.size:=by omega
          have hdc:=drop_cons hmlt
          rw [hdc] at HOC
          have hme:((m:Int) == (s.size:Int))=false:=by rw [beq_eq_false_iff_ne];omega
          have hmi2:(m:Int)<(s.size:Int):=by omega
          clear hdc hms
          obtain ⟨b,hbb⟩:∃ b,s[m]=b:=⟨_,rfl⟩
          rw [hbb,octR] at HOC
          have hb256:=b.toNat_lt
          by_cases hdg:48≤b.toNat∧b.toNat≤55
          ·obtain ⟨x,hx⟩:∃ x,x=b.toNat - 48:=⟨_,rfl⟩
           have hxb:(b.toNat:Int) - 48=(x:Int):=by omega
           obtain ⟨n1,hn1⟩:∃ n1,n1=8 * n+x:=⟨_,rfl⟩
           have hn1i:8 * (n:Int)+(x:Int)=(n1:Int):=by omega
           have hx0:¬ ((x:Int)<0):=by omega
           have hx7:¬ (7<(x:Int)):=by omega
           rw [← hx,← hn1] at HOC
           have h2r:2 - r=k:=by omega
           rw [h2r] at HOC
           have hn1b:n1<4096:=by omega
           have HNB:Hid (n1<8 ^ (k+1)):=Lib.hid (by have:=HN.out;rw [Nat.pow_succ];omega)
           have HGX:=Lib.hid (HGO.out n1 k wr (by omega) hn1b (Tab_b HG.out hb))
           clear hx hn1 h2r
           go_wp2_with fail
           refine HGX.out.mono ?_
           rintro e w1 ⟨rfl,hb1⟩
           have hb':=bstep hb hb.size hb1
           cases hgs:goesB n1 k
           ·have HNO:Hid (oneL (s.data.toList.drop i)=none):=Lib.hid (by
             rw [HDE.out,HOC.out,if_neg (by rw [hgs];simp)]
             rfl)
            clear HOC HDE
            go_wp2_with fail
            refine bodyPost_ret (results_tmp3 rfl _ _ _) rfl ?_
            exact ⟨.inr ⟨HNO.out,m,m,rfl⟩,hb'⟩
           ·rw [if_pos ⟨hdg.1,hdg.2,hgs⟩] at HOC
            have HO2:Hid (octR 3 0 (s.data.toList.drop i1)=octR (3 - (k+1)) n1 (s.data.toList.drop (i1+(k+1)))):=Lib.hid (by
             rw [HOC.out,show 3 - (k+1)=r by omega,show i1+(k+1)=m+1 by rw [HM.out];omega])
            have H256:n1<512∧(k+1=3→n1<256):=by
             have h1:=HNB.out
             obtain ⟨b2,hb2,hb3⟩:=List.any_eq_true.1 (show (List.range 256).any (fun b=>fourB b && b / 8 ^ (2 - k) == n1)=true from hgs)
             simp only [Bool.and_eq_true,beq_iff_eq] at hb3
             have hb4:=List.mem_range.1 hb2
             have hb5:n1≤b2:=by rw [← hb3.2];exact Nat.div_le_self _ _
             exact ⟨by omega,fun _=>by omega⟩
            have hlt512:=H256.1
            have HN4:=Lib.hid H256.2
            clear HOC H256 hgs hdg
            go_wp2_with fail
            go_roundw
            case rel=>exact ⟨k+1,n1,by omega,by have:=HM.out;omega,by go_num,by go_num,hlt512,HNB,HN4,hb',HO2⟩
            case measure=>simp [RowKit.intOf];omega
          ·have HNO:Hid (oneL (s.data.toList.drop i)=none):=Lib.hid (by
            rw [HDE.out,HOC.out,if_neg (fun h=>hdg ⟨h.1,h.2.1⟩)]
            rfl)
           clear HOC HDE
           by_cases h48:b.toNat<48
           ·have hx0:(b.toNat:Int) - 48<0:=by omega
            go_wp2_with fail
            refine bodyPost_ret (results_tmp3 rfl _ _ _) rfl ?_
            exact ⟨.inr ⟨HNO.out,m,m,rfl⟩,hb⟩
           ·have hx0:¬ ((b.toNat:Int) - 48<0):=by omega
            have hx7:7<(b.toNat:Int) - 48:=by omega
            go_wp2_with fail
            refine bodyPost_ret (results_tmp3 rfl _ _ _) rfl ?_
            exact ⟨.inr ⟨HNO.out,m,m,rfl⟩,hb⟩
        ·obtain rfl:k=3:=by omega
         have hn256:=HN3.out rfl
         have HNO:Hid (oneL (s.data.toList.drop i)=some (UInt8.ofNat n,4)):=Lib.hid (by rw [HDE.out,HOC.out];rfl)
         have hkw:IntKind.u8.wrap (n:Int)=(n:Int):=IntWalk.u8_in (n:Int) ⟨by omega,by omega⟩
         have hk8:((UInt8.ofNat n).toNat:Int)=(n:Int):=by simp;omega
         have hi4:((i1:Int)+3)=((i+4:Nat):Int):=by have:=HI1.out;omega
         have HI4:=Lib.hid hi4
         clear HOC HDE hi4
         go_wp2_with fail
         refine bodyPost_ret (results_tmp3 rfl _ _ _) rfl ?_
         exact ⟨.inl ⟨UInt8.ofNat n,4,HNO.out,by rw [hk8,← HI4.out];rfl⟩,hb⟩
  ·have hdn:s.data.toList.drop (i+1)=[]:=List.drop_of_length_le (by rw [Array.length_toList];show s.size≤i+1;omega)
   have HNO:Hid (oneL (s.data.toList.drop i)=none):=Lib.hid (by rw [HDR.out,hdn];rfl)
   obtain ⟨i1,hi1e⟩:∃ i1,i1=i+1:=⟨_,rfl⟩
   have hi1n:((i:Int)+1)=(i1:Int):=by omega
   have hne:((i1:Int) == (s.size:Int))=true:=by rw [show i1=s.size by omega];simp
   clear hi1e hdn HDR
   go_wp2_with fail
   refine bodyPost_ret (results_tmp3 rfl _ _ _) rfl ?_
   exact ⟨.inr ⟨HNO.out,i1,i1,rfl⟩,Below.refl _ _⟩
 ·have hop:=one_plain (r:=s.data.toList.drop (i+1)) h92
  have k1:((c.toNat:Int) != 92)=true:=by
   rw [bne_iff_ne];intro h;exact h92 (UInt8.toNat_inj.1 (by exact_mod_cast h))
  have HO:Hid (oneL (s.data.toList.drop i)=if 32≤c.toNat∧c.toNat<127∧c.toNat≠34 then some (c,1) else none):=Lib.hid (by rw [HDR.out];exact hop)
  clear hop h92
  by_cases a1:c.toNat<32
  ·have g1:(c.toNat:Int)<32:=by omega
   go_wp2_with fail
   refine bodyPost_ret (results_tmp3 rfl _ _ _) rfl ?_
   exact ⟨.inr ⟨by rw [HO.out,if_neg (by omega)],i,i,rfl⟩,Below.refl _ _⟩
  ·by_cases a2:127≤c.toNat
   ·have g1:¬ (c.toNat:Int)<32:=by omega
    have g2:(127:Int)≤(c.toNat:Int):=by omega
    go_wp2_with fail
    refine bodyPost_ret (results_tmp3 rfl _ _ _) rfl ?_
    exact ⟨.inr ⟨by rw [HO.out,if_neg (by omega)],i,i,rfl⟩,Below.refl _ _⟩
   ·have g1:¬ (c.toNat:Int)<32:=by omega
    have g2:¬ (127:Int)≤(c.toNat:Int):=by omega
    by_cases a3:c.toNat=34
    ·have g3:((c.toNat:Int) == 34)=true:=by rw [a3];rfl
     go_wp2_with fail
     refine bodyPost_ret (results_tmp3 rfl _ _ _) rfl ?_
     exact ⟨.inr ⟨by rw [HO.out,if_neg (by omega)],i,i,rfl⟩,Below.refl _ _⟩
    ·have g3:((c.toNat:Int) == 34)=false:=by rw [beq_eq_false_iff_ne];omega
     go_wp2_with fail
     refine bodyPost_ret (results_tmp3 rfl _ _ _) rfl ?_
     exact ⟨.inl ⟨c,1,by rw [HO.out,if_pos (by omega)],by go_num⟩,Below.refl _ _⟩
end Go.Proofs.YtdnhjnlhmfajnaaGreatDoor.G
