import Derived.Test.YtdnhjnlhmfajnaaGreatDoorTCopy
import Derived.Sort.Walk0
set_option linter.unusedVariables false
set_option linter.unusedSimpArgs false
namespace Go.Proofs.YtdnhjnlhmfajnaaGreatDoor.G
open Go.RowKit Go.Lib Go.Proofs.YtdnhjnlhmfajnaaGreatDoorW.PrintWords Go.Proofs.YtdnhjnlhmfajnaaGreatDoorW.PrintLast
set_option linter.unusedVariables false
def lessB (a b:ByteArray):Bool:=Op.bytesLess a.toList b.toList
def cmpS (a b:ByteArray):Int:=if lessB a b then -1 else if a.toList == b.toList then 0 else 1
theorem less_irrefl (a:ByteArray):lessB a a=false:=by
 unfold lessB
 rw [bytesLess_eq]
 simp [List.lt_irrefl]
theorem less_trans {a b c:ByteArray} (h:lessB a b=true) (k:lessB b c=true):lessB a c=true:=by
 unfold lessB at *
 rw [bytesLess_eq,decide_eq_true_eq] at *
 exact List.lt_trans h k
theorem less_total {a b:ByteArray} (h:lessB a b=false) (k:a≠b):lessB b a=true:=by
 unfold lessB at *
 rw [bytesLess_eq] at *
 rw [decide_eq_true_eq]
 rw [decide_eq_false_iff_not] at h
 have h1:=List.not_lt.1 h
 rcases List.le_iff_lt_or_eq.1 h1 with h2 | h2
 ·exact h2
 ·exact absurd (toList_inj.1 h2.symm) k
def SortedN (l:List File):Prop:=l.Pairwise fun a b=>lessB a.name b.name=true
def lowB (l:List File) (n:ByteArray):Nat:=(l.takeWhile fun x=>lessB x.name n).length
def foundB (l:List File) (n:ByteArray):Bool:=match l[lowB l n]? with | some x=>x.name.toList == n.toList | none=>false
theorem low_le (l:List File) (n:ByteArray):lowB l n≤l.length:=by
 unfold lowB
 exact (List.takeWhile_prefix _).length_le
theorem low_of (n:ByteArray):∀ (l:List File) (i:Nat),i≤l.length→(∀ (k:Nat) (h:k<l.length),k<i→lessB l[k].name n=true)→(∀ h:i<l.length,lessB l[i].name n=false)→lowB l n=i
 | [],i,hi,_,_=>by simp at hi;simp [lowB,hi]
 | x :: l,0,_,_,h2=>by
  have:=h2 (by simp)
  simp only [List.getElem_cons_zero] at this
  simp [lowB,this]
 | x :: l,i+1,hi,h1,h2=>by
  have hx:=h1 0 (by simp) (by omega)
  simp only [List.getElem_cons_zero] at hx
  have ih:=low_of n l i (by simpa using hi) (fun k hk hki=>by have:=h1 (k+1) (by simpa using hk) (by omega);simpa using this) (fun h=>by have:=h2 (by simpa using h);simpa using this)
  unfold lowB at *
  rw [List.takeWhile_cons,if_pos hx,List.length_cons,ih]
theorem isNaN_calls (x:ByteArray) (w:World):Calls Tryz.prog 140 #[.string x] w fun e w'=>e=.returned (.bool false)∧w'=w:=by
 go_enter Tryz.func140,Tryz.ntmps140
 go_wp2
 go_ret
 exact ⟨by simp,rfl⟩
theorem compareS_calls (x y:ByteArray) (w:World):Calls Tryz.prog 110 #[.string x,.string y] w fun e w'=>e=.returned (.int .i64 (cmpS x y))∧w'=w:=by
 have HX:=Lib.hid (fun W=>isNaN_calls x W)
 have HY:=Lib.hid (fun W=>isNaN_calls y W)
 have HC:Hid (cmpS x y=if lessB x y then -1 else if x.toList == y.toList then 0 else 1):=Lib.hid rfl
 unfold lessB at HC
 generalize cmpS x y=r at *
 go_enter Tryz.func110,Tryz.ntmps110
 go_wp2_with fail
 refine (HX.out _).mono ?_
 rintro e w1 ⟨rfl,hw1⟩
 rw [hw1]
 clear hw1
 go_wp2_with fail
 refine (HY.out _).mono ?_
 rintro e w1 ⟨rfl,hw1⟩
 rw [hw1]
 clear hw1
 cases h1:Op.bytesLess x.toList y.toList
 ·cases h2:(x.toList == y.toList)
  ·have hc:=HC.out
   rw [h1,h2] at hc
   simp only [Bool.false_eq_true,if_false] at hc
   subst hc
   go_wp2_with fail
   go_ret
   exact ⟨rfl,rfl⟩
  ·have hc:=HC.out
   rw [h1,h2] at hc
   simp only [Bool.false_eq_true,if_false,if_true] at hc
   subst hc
   go_wp2_with fail
   go_ret
   exact ⟨rfl,rfl⟩
 ·have hc:=HC.out
  rw [h1] at hc
  simp only [if_true] at hc
  subst hc
  go_wp2_with fail
  go_ret
  exact ⟨rfl,rfl⟩
theorem findc_calls (x:File) (A:Option Addr) (c:Nat) (n:ByteArray) (w:World):Calls Tryz.prog 109 #[.agg (fc x A c),.string n] w fun e w'=>e=.returned (.int .i64 (cmpS x.name n))∧Below w.heap.size w w':=by
 have HC:=Lib.hid (fun W=>compareS_calls x.name n W)
 have HB:=Lib.hid (below_alloc (Below.refl w.heap.size w) (.cells (fc x A c) 25))
 go_enter Tryz.func109,Tryz.ntmps109
 go_wp2_with fail
 refine (HC.out _).mono ?_
 rintro e w1 ⟨rfl,hw1⟩
 rw [hw1]
 clear hw1
 go_wp2_with fail
 go_ret
 exact ⟨rfl,HB.out⟩
theorem sorted_lt {l:List File} (hs:SortedN l) {i j:Nat} (hij:i<j) (hj:j<l.length):lessB (l[i]'(by omega)).name l[j].name=true:=List.pairwise_iff_getElem.1 hs i j (by omega) hj hij
theorem cmp_neg {a b:ByteArray}:cmpS a b<0↔lessB a b=true:=by
 unfold cmpS
 split
 ·simp [*]
 ·split <;> simp_all
theorem cmp_eq0 {a b:ByteArray}:(cmpS a b == 0)=(a.toList == b.toList):=by
 unfold cmpS
 split
 ·rename_i h
  cases he:a.toList == b.toList
  ·rfl
  ·rw [toList_inj.1 (eq_of_beq he),less_irrefl] at h
   cases h
 ·split
  ·simp [*]
  ·simp_all
set_option maxHeartbeats 4000000 in
set_option maxRecDepth 100000 in
theorem search_calls (A:Option Addr) (c:Nat) (l:List File) (n:ByteArray) (w:World) (hr:FileK.C w A l.length l) (hc:l.length≤c) (hl:l.length≤1099511627776) (hs:SortedN l) :
  Calls Tryz.prog 108 #[.slice A l.length c,.string n,.func (.func 109) #[] #[]] w fun e w'=>e=.returned (.tuple #[.int .i64 (lowB l n),.bool (foundB l n)])∧Below w.heap.size w w':=by
 have HR:=Lib.hid hr
 have HS:=Lib.hid hs
 have HF:=Lib.hid (fun (x:File) A c W=>findc_calls x A c n W)
 have HFD0:Hid (foundB l n=match l[lowB l n]? with | some x=>x.name.toList == n.toList | none=>false):=Lib.hid rfl
 obtain ⟨lo,hlo⟩:∃ lo,lowB l n=lo:=⟨_,rfl⟩
 rw [hlo] at HFD0
 rw [hlo]
 have HLO:=Lib.hid hlo
 generalize foundB l n=fb at *
 clear hr hs hlo
 go_enter Tryz.func108,Tryz.ntmps108
 go_wp2_with fail
 go_loopw [9,10] (fun vi vj wr=>∃ i j:Nat,i≤j∧j≤l.length∧vi=.int .i64 i∧vj=.int .i64 j∧Below w.heap.size w wr∧Hid (∀ (k:Nat) (h:k<l.length),k<i→lessB l[k].name n=true)∧Hid (∀ (k:Nat) (h:k<l.length),j≤k→lessB l[k].name n=false)) (fun vi vj _=>((RowKit.intOf vj) - (RowKit.intOf vi)).toNat)
 case atStart=>exact ⟨0,l.length,by omega,by omega,rfl,rfl,Below.refl _ _,Lib.hid (fun _ _ h=>by omega),Lib.hid (fun _ h1 h2=>by omega)⟩
 case round =>
  obtain ⟨i,j,hij,hj,rfl,rfl,hb,HLo,HHi⟩:=hrel
  by_cases hlt:i<j
  ·obtain ⟨h,hh⟩:∃ h,h=(i+j) / 2:=⟨_,rfl⟩
   have h1:i≤h:=by omega
   have h2:h<j:=by omega
   have hln:h<l.length:=by omega
   obtain ⟨aad,A',c',rfl,p1,p2,p3,p4,hc',hC'⟩:=file_at HR.out h hln
   have mv:∀ {p:Addr} {v:Value},w.cell? p=some v→wr.cell? p=some v:=fun h=>(hb.cell (World.block_lt_of_cell? w _ h)).trans h
   have p1':=mv p1
   have p2':=mv p2
   have p3':=mv p3
   have p4':=mv p4
   have HX:=Lib.hid (show ∀ (k:Nat) (hk:k<l.length),k≤h→lessB l[k].name l[h].name=true∨k=h from fun k hk hkh=>by
    rcases Nat.lt_or_ge k h with h3 | h3
    ·exact .inl (sorted_lt HS.out h3 hln)
    ·exact .inr (by omega))
   have HY:=Lib.hid (show ∀ (k:Nat) (hk:k<l.length),h<k→lessB l[h].name l[k].name=true from fun k hk hkh=>sorted_lt HS.out hkh hk)
   have HE:Hid (∀ (k:Nat) (hk:k<l.length),k=h→l[k]=l[h]):=Lib.hid (fun k hk e=>by subst e;rfl)
   clear p1 p2 p3 p4 mv hC'
   generalize l[h]=x at *
   have hdiv:((i:Int)+(j:Int)) / 2=(h:Int):=by omega
   have g1:(i:Int)<(j:Int):=by omega
   have HHH:=Lib.hid hh
   clear hh
   go_wp2_with fail
   refine (HF.out x A' c' wr).mono ?_
   rintro e w1 ⟨rfl,hb1⟩
   have hb':=bstep hb hb.size hb1
   cases hle:lessB x.name n
   ·have hc0:¬ (cmpS x.name n<0):=by rw [cmp_neg,hle];simp
    have HHN:Hid (∀ (k:Nat) (hk:k<l.length),h≤k→lessB l[k].name n=false):=Lib.hid fun k hk hkh=>by
     rcases Nat.lt_or_ge h k with h3 | h3
     ·cases hkn:lessB l[k].name n
      ·rfl
      ·have:=less_trans (HY.out k hk h3) hkn
       rw [hle] at this
       cases this
     ·rw [HE.out k hk (by omega)]
      exact hle
    generalize cmpS x.name n=r at *
    go_wp2_with fail
    go_roundw
    case rel=>exact ⟨i,h,h1,by omega,rfl,rfl,hb',HLo,HHN⟩
    case measure=>simp [RowKit.intOf];omega
   ·have hc0:cmpS x.name n<0:=by rw [cmp_neg];exact hle
    have HLN:Hid (∀ (k:Nat) (hk:k<l.length),k<h+1→lessB l[k].name n=true):=Lib.hid fun k hk hkh=>by
     rcases HX.out k hk (by omega) with h3 | h3
     ·exact less_trans h3 hle
     ·rw [HE.out k hk h3]
      exact hle
    generalize cmpS x.name n=r at *
    go_wp2_with fail
    go_roundw
    case rel=>exact ⟨h+1,j,by omega,hj,by go_num,rfl,hb',HLN,HHi⟩
    case measure=>simp [RowKit.intOf];omega
  ·obtain rfl:i=j:=by omega
   have hlow:=low_of n l i hj HLo.out (fun h=>HHi.out i h (Nat.le_refl _))
   obtain rfl:i=lo:=hlow.symm.trans HLO.out
   have HFD:=HFD0
   clear hlow HFD0 HLO
   by_cases hlt2:i<l.length
   ·obtain ⟨aad,A',c',rfl,p1,p2,p3,p4,hc',hC'⟩:=file_at HR.out i hlt2
    have mv:∀ {p:Addr} {v:Value},w.cell? p=some v→wr.cell? p=some v:=fun h=>(hb.cell (World.block_lt_of_cell? w _ h)).trans h
    have p1':=mv p1
    have p2':=mv p2
    have p3':=mv p3
    have p4':=mv p4
    have hfd:=HFD.out
    rw [List.getElem?_eq_getElem hlt2] at hfd
    simp only at hfd
    clear p1 p2 p3 p4 mv hC' HLo HHi HFD
    generalize l[i]=x at *
    have g1:(i:Int)<(l.length:Int):=by omega
    go_wp2_with fail
    refine (HF.out x A' c' wr).mono ?_
    rintro e w1 ⟨rfl,hb1⟩
    have hb':=bstep hb hb.size hb1
    have hceq:=cmp_eq0 (a:=x.name) (b:=n)
    rw [← hfd] at hceq
    clear hfd
    generalize cmpS x.name n=r at *
    cases fb
    ·go_wp2_with fail
     go_ret2
     exact ⟨by simp,hb'⟩
    ·go_wp2_with fail
     go_ret2
     exact ⟨by simp,hb'⟩
   ·have hfd:=HFD.out
    rw [List.getElem?_eq_none (by omega)] at hfd
    simp only at hfd
    subst hfd
    go_wp2_with fail
    go_ret2
    exact ⟨by simp,hb⟩
theorem find_calls (A:Option Addr) (c:Nat) (l:List File) (n:ByteArray) (w:World) (hr:FileK.C w A l.length l) (hc:l.length≤c) (hl:l.length≤1099511627776) (hs:SortedN l) :
  Calls Tryz.prog 69 #[.slice A l.length c,.string n] w fun e w'=>e=.returned (.tuple #[.int .i64 (lowB l n),.bool (foundB l n)])∧Below w.heap.size w w':=by
 have HC:=Lib.hid (search_calls A c l n w hr hc hl hs)
 clear hr hs
 go_enter Tryz.func69,Tryz.ntmps69
 go_wp2_with fail
 refine HC.out.mono ?_
 rintro e w1 ⟨rfl,hb1⟩
 go_wp2_with fail
 go_ret2
 exact ⟨rfl,hb1⟩
end Go.Proofs.YtdnhjnlhmfajnaaGreatDoor.G
