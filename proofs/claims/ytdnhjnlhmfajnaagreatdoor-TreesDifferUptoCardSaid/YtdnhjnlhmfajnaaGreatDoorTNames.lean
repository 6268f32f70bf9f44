import Derived.Test.YtdnhjnlhmfajnaaGreatDoorTLines
import Derived.Test.YtdnhjnlhmfajnaaGreatDoorTBelow
import Derived.Lib.CountLaws
import Derived.Lib.CutLaws
import Derived.Lib.Split
set_option linter.unusedVariables false
set_option linter.unusedSimpArgs false
namespace Go.Proofs.YtdnhjnlhmfajnaaGreatDoor.G
open Go.RowKit Go.Lib Go.Proofs.YtdnhjnlhmfajnaaGreatDoorW.PrintWords Go.Proofs.YtdnhjnlhmfajnaaGreatDoorW.PrintLast
set_option linter.unusedVariables false
set_option linter.unusedSimpArgs false
def cutsL (l:List UInt8):List (List UInt8):=match h:cutB 47 l with
 | some x=>x.1 :: cutsL x.2
 | none=>[l]
termination_by l.length
decreasing_by
 have:=cutB_len (t:=x.1) (u:=x.2) h
 rw [this]
 simp only [List.length_append,List.length_cons]
 omega
def cutsP (l:List UInt8):List ByteArray:=(cutsL l).map fun x=>⟨x.toArray⟩
theorem cuts_some {l:List UInt8} {x:List UInt8×List UInt8} (h:cutB 47 l=some x):cutsP l=⟨x.1.toArray⟩ :: cutsP x.2:=by
 rw [cutsP,cutsL]
 split
 ·rename_i y hy
  rw [h] at hy
  injection hy with hy
  subst hy
  rfl
 ·rename_i hy
  rw [h] at hy
  cases hy
theorem cuts_none {l:List UInt8} (h:cutB 47 l=none):cutsP l=[⟨l.toArray⟩]:=by
 rw [cutsP,cutsL]
 split
 ·rename_i y hy
  rw [h] at hy
  cases hy
 ·rfl
theorem extract_list (s:ByteArray) (i j:Nat):(s.extract i j).data.toList=(s.data.toList.drop i).take (j - i):=by
 rw [ByteArray.data_extract,Array.toList_extract]
theorem cuts_lib:∀ (N:Nat) (s:ByteArray),s.size≤N→Lib.splitB ⟨#[47]⟩ 0 (Lib.countB s ⟨#[47]⟩) s=cutsP s.data.toList∧(cutsP s.data.toList).length=Lib.countB s ⟨#[47]⟩+1:=by
 intro N
 induction N with
 | zero =>
  intro s hs
  have h0:s.data.toList=[]:=List.eq_nil_of_length_eq_zero (by rw [← Lib.size_eq];omega)
  have hi:Lib.indexB s ⟨#[47]⟩ = -1:=by
   show Lib.index s.data.toList [47] = -1
   rw [h0]
   rfl
  have hc:cutB 47 s.data.toList=none:=by rw [h0];rfl
  rw [Lib.countB_miss _ _ hi,Lib.splitB_miss _ _ _ _ hi,cuts_none hc]
  exact ⟨by congr 1,rfl⟩
 | succ N ih =>
  intro s hs
  have hix:=index_cut 47 s.data.toList
  cases hc:cutB 47 s.data.toList with
  | none =>
   rw [hc] at hix
   have hi:Lib.indexB s ⟨#[47]⟩ = -1:=hix
   rw [Lib.countB_miss _ _ hi,Lib.splitB_miss _ _ _ _ hi,cuts_none hc]
   exact ⟨by congr 1,rfl⟩
  | some x =>
   rw [hc] at hix
   have hi:Lib.indexB s ⟨#[47]⟩=(x.1.length:Int):=hix
   have hl:=cutB_len (t:=x.1) (u:=x.2) hc
   have hsz:s.size=x.1.length+(x.2.length+1):=by rw [Lib.size_eq,hl];simp
   have h1:(⟨#[47]⟩:ByteArray).size=1:=rfl
   have e1:(s.extract (x.1.length+1) s.size).data.toList=x.2:=by
    rw [extract_list,hl,show x.1++47 :: x.2=(x.1++[47])++x.2 by simp,List.drop_left' (by simp),List.take_of_length_le (by omega)]
   have e2:s.extract 0 (x.1.length+0)=⟨x.1.toArray⟩:=by
    apply ByteArray.ext
    apply Array.toList_inj.1
    rw [extract_list,hl]
    simp
   have hsx:(s.extract (x.1.length+1) s.size).size≤N:=by rw [Lib.size_eq,e1];omega
   obtain ⟨i1,i2⟩:=ih _ hsx
   rw [Lib.countB_hit s _ x.1.length (by rw [h1];exact Nat.le_refl _) hi,h1,Nat.add_comm 1,Lib.splitB_hit _ _ _ _ _ hi,h1,cuts_some hc,e2,i1,e1]
   rw [e1] at i2
   exact ⟨rfl,by rw [List.length_cons,i2]⟩
def namesB (l:List ByteArray):Bool:=l.all fun n=>nameB n.data.toList
def splitR (s:ByteArray):List ByteArray×Bool:=match s.data.toList with
 | []=>([],false)
 | c :: r=>if c=47 then (if namesB (cutsP r) then (cutsP r,decide ((cutsP r).length≤64)) else ([],false)) else ([],false)
theorem cutsL_len:∀ (N:Nat) (l:List UInt8),l.length≤N→(cutsP l).length≤l.length+1
 | N,l,h=>by
  cases hc:cutB 47 l with
  | none=>rw [cuts_none hc];simp
  | some x =>
   have hl:=cutB_len (t:=x.1) (u:=x.2) hc
   have hlen:l.length=x.1.length+(x.2.length+1):=by rw [hl];simp
   cases N with
   | zero=>omega
   | succ N =>
    have:=cutsL_len N x.2 (by omega)
    rw [cuts_some hc,List.length_cons]
    omega
set_option maxHeartbeats 4000000 in
set_option maxRecDepth 100000 in
theorem Split_calls (s:ByteArray) (w:World) (hs:s.size≤1073741824) (hM:Maxed w) :
  Calls Tryz.prog 90 #[.string s,.string ⟨#[47]⟩] w fun e w'=>∃ v,e=.returned v∧Kd.R Kd.string 9 w' w.heap.size (fun _=>True) v (cutsP s.data.toList)∧Below w.heap.size w w':=by
 obtain ⟨m,hm⟩:=hM
 refine (Tryz.strings_Split s ⟨#[47]⟩ m w (by omega) hm (by decide)).mono ?_
 rintro e w' ⟨rfl,rfl⟩
 obtain ⟨h1,h2⟩:=cuts_lib s.size s (Nat.le_refl _)
 have h3:=cutsL_len _ s.data.toList (Nat.le_refl _)
 rw [← Lib.size_eq] at h3
 rw [h1,← h2]
 refine ⟨_,rfl,Kd.R_of_own (h1:=fun _=>rfl) (own_lit_of w w.heap.size _ (cutsP s.data.toList) (Nat.le_refl _) (by omega)) (fun _ _=>trivial),below_alloc (Below.refl _ _) _⟩
set_option maxHeartbeats 4000000 in
set_option maxRecDepth 100000 in
theorem psplit_calls (s:ByteArray) (w:World) (hs:s.size≤1073741824) (hM:Maxed w) :
  Calls Tryz.prog 49 #[.string s] w fun e w'=>∃ v,e=.returned (.tuple #[v,.bool (splitR s).2])∧Kd.R Kd.string 9 w' w.heap.size (fun _=>True) v (splitR s).1∧Below w.heap.size w w':=by
 have HM:=Lib.hid hM
 have HH:=Lib.hid (fun W=>Tryz.strings_HasPrefix s ⟨#[47]⟩ W)
 have HN:=Lib.hid (fun (n:ByteArray) W=>name_calls n W)
 clear hM
 have hcase:(∃ r,s.data.toList=47 :: r)∨(Lib.hasPrefix s.data.toList (⟨#[47]⟩:ByteArray).data.toList=false∧splitR s=([],false)):=by
  unfold splitR Lib.hasPrefix
  cases hs:s.data.toList with
  | nil=>exact .inr ⟨rfl,rfl⟩
  | cons c r =>
   by_cases h:c=47
   ·subst h
    exact .inl ⟨r,rfl⟩
   ·refine .inr ⟨?_,if_neg h⟩
    simp [List.isPrefixOf]
    exact fun e=>h e.symm
 rcases hcase with ⟨r,hr⟩ | ⟨hp,hR⟩
 ·have hp:Lib.hasPrefix s.data.toList (⟨#[47]⟩:ByteArray).data.toList=true:=by rw [hr];simp [Lib.hasPrefix]
  have hpos:1≤s.size:=by rw [Lib.size_eq,hr];simp
  have hx:(s.extract 1 s.size).data.toList=r:=by
   rw [extract_list,hr,List.drop_one,List.tail_cons,List.take_of_length_le (by rw [Lib.size_eq,hr];simp)]
  have hR:splitR s=if namesB (cutsP r) then (cutsP r,decide ((cutsP r).length≤64)) else ([],false):=by rw [splitR,hr];rfl
  have hlen:(cutsP r).length≤s.size+1:=by
   have h1:=cutsL_len _ r (Nat.le_refl _)
   have h2:s.size=r.length+1:=by rw [Lib.size_eq,hr];rfl
   omega
  have HS:=Lib.hid (fun W h=>Split_calls (s.extract 1 s.size) W (by rw [ByteArray.size_extract];omega) h)
  rw [hx] at HS
  rw [hp] at HH
  have HRR:=Lib.hid hR
  clear hR hx hr hp
  generalize splitR s=R at *
  generalize cutsP r=L at *
  go_enter Tryz.func49,Tryz.ntmps49
  go_wp2_with fail
  refine (HH.out _).mono ?_
  rintro e w1 ⟨rfl,hw1⟩
  rw [hw1]
  clear hw1
  have hp1:(1:Int)≤(s.size:Int):=by omega
  go_wp2_with fail
  refine (HS.out _ HM.out).mono ?_
  rintro e w2 ⟨v,rfl,ho,hb2⟩
  have hs2:=hb2.size
  have HO:=Lib.hid ho
  obtain ⟨A,c,rfl,hc,hC⟩:=Kd.R_reads ho
  have HCC:=Lib.hid hC
  clear ho hC HS
  go_wp2_with fail
  go_loopw [15] (fun vi wr=>∃ k:Nat,k≤L.length∧vi=.int .i64 k∧Below w2.heap.size w2 wr∧Hid ((L.take k).all (fun n=>nameB n.data.toList)=true)) (fun vi _=>L.length - (RowKit.intOf vi).toNat)
  case atStart=>exact ⟨0,by omega,rfl,Below.refl _ _,Lib.hid rfl⟩
  case round =>
   obtain ⟨k,hk,rfl,hb,HA⟩:=hrel
   by_cases hlt:k<L.length
   ·obtain ⟨ad,rfl,hx⟩:=Kd.at_string HCC.out (k:Int) (by omega) (by omega)
    rw [Int.toNat_natCast] at hx
    have he:rdOf ByteArray.empty L (k:Int)=L[k]:=by simp [rdOf,hlt]
    rw [he] at hx
    have hx':=(hb.cell (World.block_lt_of_cell? w2 _ hx)).trans hx
    have htk:L.take (k+1)=L.take k++[L[k]]:=List.take_succ_eq_append_getElem hlt
    have hmem:=List.getElem_mem hlt
    have HTK:=Lib.hid htk
    have HME:=Lib.hid hmem
    clear he hx htk hmem
    generalize L[k]=n at *
    have g1:(k:Int)<(L.length:Int):=by omega
    go_wp2_with fail
    refine (HN.out n wr).mono ?_
    rintro e w3 ⟨rfl,hb3⟩
    have hb':=bstep hb hb.size hb3
    have HAN:Hid ((L.take (k+1)).all (fun n=>nameB n.data.toList)=nameB n.data.toList):=Lib.hid (by rw [HTK.out,List.all_append,HA.out];simp)
    have HFA:Hid (nameB n.data.toList=false→namesB L=false):=Lib.hid fun h=>by
     rw [namesB,List.all_eq_false]
     exact ⟨n,HME.out,by rw [h];simp⟩
    cases hn:nameB n.data.toList
    ·have hR:=HRR.out
     rw [HFA.out hn] at hR
     simp only [Bool.false_eq_true,if_false] at hR
     subst hR
     clear hn HRR HAN HFA
     go_wp2_with fail
     go_ret2
     exact ⟨_,rfl,Kd.R_nil _ _ _ _ _,hb2.trans (hb'.mono (by omega))⟩
    ·rw [hn] at HAN
     clear hn HFA
     go_wp2_with fail
     go_roundw
     case rel=>exact ⟨k+1,by omega,by go_num,hb',HAN⟩
     case measure=>simp [RowKit.intOf];omega
   ·obtain rfl:k=L.length:=by omega
    rw [List.take_length] at HA
    have hR:=HRR.out
    rw [show namesB L=true from HA.out] at hR
    simp only [if_true] at hR
    subst hR
    have HO':=Lib.hid (Kd.R_below HO.out hb)
    have hbf:=hb2.trans (hb.mono (by omega))
    clear HRR HA
    by_cases h64:L.length≤64
    ·have g1:(L.length:Int)≤64:=by omega
     go_wp2_with fail
     go_ret2
     exact ⟨_,by simp [h64],HO'.out,hbf⟩
    ·have g1:¬ (L.length:Int)≤64:=by omega
     go_wp2_with fail
     go_ret2
     exact ⟨_,by simp [h64],HO'.out,hbf⟩
 ·rw [hp] at HH
  rw [hR]
  clear hp hR
  go_enter Tryz.func49,Tryz.ntmps49
  go_wp2_with fail
  refine (HH.out _).mono ?_
  rintro e w1 ⟨rfl,hw1⟩
  rw [hw1]
  clear hw1
  go_wp2_with fail
  go_ret2
  exact ⟨_,rfl,Kd.R_nil _ _ _ _ _,Below.refl _ _⟩
end Go.Proofs.YtdnhjnlhmfajnaaGreatDoor.G
