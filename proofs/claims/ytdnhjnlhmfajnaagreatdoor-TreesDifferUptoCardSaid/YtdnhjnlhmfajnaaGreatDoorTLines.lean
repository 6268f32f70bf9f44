import Derived.Test.YtdnhjnlhmfajnaaGreatDoorTQuote
import Derived.Lib.IndexMore
set_option linter.unusedVariables false
set_option linter.unusedSimpArgs false
namespace Go.Proofs.YtdnhjnlhmfajnaaGreatDoor.G
open Go.RowKit Go.Lib Go.Proofs.YtdnhjnlhmfajnaaGreatDoorW.PrintWords Go.Proofs.YtdnhjnlhmfajnaaGreatDoorW.PrintLast
set_option linter.unusedVariables false
def cutB (c:UInt8):List UInt8→Option (List UInt8×List UInt8)
 | []=>none
 | b :: r=>if b=c then some ([],r) else (cutB c r).map fun x=>(b :: x.1,x.2)
theorem cutB_len {c:UInt8}:∀ {l t u:List UInt8},cutB c l=some (t,u)→l=t++c :: u
 | [],t,u,h=>by cases h
 | b :: r,t,u,h=>by
  unfold cutB at h
  by_cases hb:b=c
  ·rw [if_pos hb] at h
   simp only [Option.some.injEq,Prod.mk.injEq] at h
   obtain ⟨rfl,rfl⟩:=h
   rw [hb]
   rfl
  ·rw [if_neg hb] at h
   obtain ⟨x,hx,h2⟩:=Option.map_eq_some_iff.1 h
   simp only [Prod.mk.injEq] at h2
   obtain ⟨rfl,rfl⟩:=h2
   rw [cutB_len (t:=x.1) (u:=x.2) hx]
   simp
theorem index_cut (c:UInt8):∀ l:List UInt8,Lib.index l [c]=(match cutB c l with | some x=>(x.1.length:Int) | none => -1)
 | []=>rfl
 | b :: r=>by
  have ih:=index_cut c r
  unfold Lib.index cutB
  by_cases hb:b=c
  ·subst hb
   simp
  ·have hp:[c].isPrefixOf (b :: r)=false:=by simp [List.isPrefixOf];exact fun h=>hb h.symm
   rw [hp,if_neg hb,ih]
   cases cutB c r with
   | none=>simp
   | some x=>simp
def Maxed (w:World):Prop:=∃ m,w.cell? ⟨1,0,none⟩=some (.int .i64 m)
theorem Maxed_below {w W:World} (h:Maxed w) (hb:Below w.heap.size w W):Maxed W:=by
 obtain ⟨m,h⟩:=h
 exact ⟨m,(hb.cell (World.block_lt_of_cell? w _ h)).trans h⟩
theorem ext_list (s:ByteArray) (i j:Nat):(s.extract i j).data.toList=(s.data.toList.drop i).take (j - i):=by
 rw [ByteArray.data_extract,Array.toList_extract]
set_option maxHeartbeats 4000000 in
set_option maxRecDepth 100000 in
theorem scut_calls (s:ByteArray) (c:UInt8) (w:World) (hs:s.size≤1099511627776) :
  Calls Tryz.prog 118 #[.string s,.string ⟨#[c]⟩] w fun e w'=>e=.returned (.tuple (match cutB c s.data.toList with | some x=>#[.string ⟨x.1.toArray⟩,.string ⟨x.2.toArray⟩,.bool true] | none=>#[.string s,.string ⟨#[]⟩,.bool false]))∧Below w.heap.size w w':=by
 have hi:=index_cut c s.data.toList
 rw [Lib.index_one] at hi
 have HI0:=(fun W=>Tryz.stringslite_Index_one s c W)
 rw [show Lib.indexByte s.data.toList c=(match cutB c s.data.toList with | some x=>(x.1.length:Int) | none => -1) from hi] at HI0
 have HI:=Lib.hid HI0
 clear HI0 hi
 cases hc:cutB c s.data.toList with
 | none =>
  rw [hc] at HI
  simp only at HI
  clear hc
  go_enter Tryz.func118,Tryz.ntmps118
  go_wp2_with fail
  refine (HI.out _).mono ?_
  rintro e w1 ⟨rfl,rfl⟩
  go_wp2_with fail
  refine bodyPost_ret (results_tmp3 rfl _ _ _) rfl ?_
  exact ⟨rfl,Below.refl _ _⟩
 | some x =>
  rw [hc] at HI
  simp only at HI
  have hl:=cutB_len (t:=x.1) (u:=x.2) hc
  have hsz:s.size=x.1.length+(x.2.length+1):=by rw [Lib.size_eq,hl];simp
  have e1:s.extract 0 x.1.length=⟨x.1.toArray⟩:=by
   apply ByteArray.ext
   apply Array.toList_inj.1
   rw [ext_list,List.drop_zero,hl]
   simp
  have e2:s.extract (x.1.length+1) s.size=⟨x.2.toArray⟩:=by
   apply ByteArray.ext
   apply Array.toList_inj.1
   rw [ext_list,hl,show x.1++c :: x.2=(x.1++[c])++x.2 by simp,List.drop_left' (by simp),List.take_of_length_le (by omega)]
  have g1:(0:Int)≤(x.1.length:Int):=by omega
  have g2:(x.1.length:Int)≤(s.size:Int):=by omega
  have g3:(x.1.length:Int)+1≤(s.size:Int):=by omega
  simp only
  clear hl hc hsz
  go_enter Tryz.func118,Tryz.ntmps118
  go_wp2_with fail
  refine (HI.out _).mono ?_
  rintro e w1 ⟨rfl,rfl⟩
  go_wp2_with fail
  go_quiet (fail)
  go_wp2_with fail
  refine bodyPost_ret (results_tmp3 rfl _ _ _) rfl ?_
  exact ⟨rfl,bdrewN (Below.refl _ _) _⟩
set_option maxHeartbeats 4000000 in
set_option maxRecDepth 100000 in
theorem cut_calls (s:ByteArray) (c:UInt8) (w:World) (hs:s.size≤1099511627776) (hM:Maxed w) :
  Calls Tryz.prog 87 #[.string s,.string ⟨#[c]⟩] w fun e w'=>e=.returned (.tuple (match cutB c s.data.toList with | some x=>#[.string ⟨x.1.toArray⟩,.string ⟨x.2.toArray⟩,.bool true] | none=>#[.string s,.string ⟨#[]⟩,.bool false]))∧Below w.heap.size w w':=by
 have HI:=Lib.hid (fun W=>scut_calls s c W hs)
 cases hc:cutB c s.data.toList with
 | none =>
  rw [hc] at HI
  simp only at HI
  clear hc
  go_enter Tryz.func87,Tryz.ntmps87
  go_wp2_with fail
  refine (HI.out _).mono ?_
  rintro e w1 ⟨rfl,hb1⟩
  go_wp2_with fail
  refine bodyPost_ret (results_tmp3 rfl _ _ _) rfl ?_
  exact ⟨rfl,hb1⟩
 | some x =>
  rw [hc] at HI
  simp only at HI
  clear hc
  go_enter Tryz.func87,Tryz.ntmps87
  go_wp2_with fail
  refine (HI.out _).mono ?_
  rintro e w1 ⟨rfl,hb1⟩
  go_wp2_with fail
  refine bodyPost_ret (results_tmp3 rfl _ _ _) rfl ?_
  exact ⟨rfl,hb1⟩
def lns (l:List UInt8):List (List UInt8×Bool):=match l with
 | []=>[]
 | b :: r=>match h:cutB 10 (b :: r) with
  | some x=>(x.1,true) :: lns x.2
  | none=>[(b :: r,false)]
termination_by l.length
decreasing_by
 have:=cutB_len (t:=x.1) (u:=x.2) h
 rw [this]
 simp only [List.length_append,List.length_cons]
 omega
def linesP (l:List UInt8):List (ByteArray×Bool):=(lns l).map fun x=>(⟨x.1.toArray⟩,x.2)
theorem lines_nil:linesP []=[]:=by rw [linesP,lns];rfl
theorem lines_some {l:List UInt8} {x:List UInt8×List UInt8} (h:cutB 10 l=some x):linesP l=(⟨x.1.toArray⟩,true) :: linesP x.2:=by
 cases l with
 | nil=>cases h
 | cons b r =>
  rw [linesP,lns]
  split
  ·rename_i y hy
   rw [h] at hy
   injection hy with hy
   subst hy
   rfl
  ·rename_i hy
   rw [h] at hy
   cases hy
theorem lines_none {l:List UInt8} (hl:l≠[]) (h:cutB 10 l=none):linesP l=[(⟨l.toArray⟩,false)]:=by
 cases l with
 | nil=>exact absurd rfl hl
 | cons b r =>
  rw [linesP,lns]
  split
  ·rename_i y hy
   rw [h] at hy
   cases hy
  ·rfl
def LineK:Kd (ByteArray×Bool):=Kd.pair Kd.string Kd.bool
theorem line_mk (w:World) (base:Nat) (ok:Nat→Prop) (t:ByteArray) (b:Bool):LineK.M w base ok (t,b) [.string t,.bool b]:=⟨[.string t],[.bool b],rfl,rfl,rfl⟩
theorem mk_sizeB (l:List UInt8):(⟨l.toArray⟩:ByteArray).size=l.length:=by simp [ByteArray.size]
theorem info_line:(Tryz.prog.info? 83).map (fun i=>(i.zero,i.size,i.bytes))=some (some (.agg #[.string ⟨#[]⟩,.bool false]),2,24):=by kernel_rfl
set_option maxHeartbeats 4000000 in
set_option maxRecDepth 100000 in
theorem split_calls (s:ByteArray) (w:World) (hs:s.size≤1099511627776) (hM:Maxed w) :
  Calls Tryz.prog 46 #[.string s] w fun e w'=>∃ v,e=.returned v∧LineK.R 83 w' w.heap.size (fun _=>True) v (linesP s.data.toList)∧Below w.heap.size w w':=by
 have HM:=Lib.hid hM
 have HC:=Lib.hid (fun x W h1 h2=>cut_calls x 10 W h1 h2)
 obtain ⟨L,hL⟩:∃ L,linesP s.data.toList=L:=⟨_,rfl⟩
 rw [hL]
 have HL:=Lib.hid hL
 clear hM hL
 go_enter Tryz.func46,Tryz.ntmps46
 go_wp2_with fail
 go_loopw [0,3] (fun vs vo wr=>∃ (x:ByteArray) (v:Value) (out:List (ByteArray×Bool)),v=vo∧vs=.string x∧out.length+x.size≤s.size∧Hid (LineK.R 83 wr w.heap.size (fun _=>True) v out)∧Below w.heap.size w wr∧Hid (L=out++linesP x.data.toList)) (fun vs _ _=>match vs with | .string x=>x.size | _=>0)
 case atStart=>exact ⟨s,_,[],rfl,rfl,by simp,Lib.hid (Kd.R_nil _ _ _ _ _),Below.refl _ _,Lib.hid HL.out.symm⟩
 case round =>
  obtain ⟨x,v,out,rfl,rfl,hlen,HR,hb,HL2⟩:=hrel
  have hsz:=hb.size
  cases he:x.toList.isEmpty
  ·have hpos:x.data.toList≠[]:=by
    intro h
    rw [Lib.toList_data,h] at he
    cases he
   have HX:=Lib.hid (HC.out x wr (by omega) (Maxed_below HM.out hb))
   obtain ⟨A,c,rfl,hc,hCC⟩:=Kd.R_reads HR.out
   cases hcut:cutB 10 x.data.toList with
   | some y =>
    have hlin:=lines_some hcut
    rw [hlin] at HL2
    rw [hcut] at HX
    simp only at HX
    have hxl:=cutB_len (t:=y.1) (u:=y.2) hcut
    have hxs:x.size=y.1.length+1+y.2.length:=by
     rw [Lib.size_eq,hxl]
     simp only [List.length_append,List.length_cons]
     omega
    have HH:=Lib.hid hxs
    clear hcut hlin hxl hpos hCC hxs
    go_wp2_with fail
    refine HX.out.mono ?_
    rintro e w1 ⟨rfl,hb1⟩
    have hb':=bstep hb hsz hb1
    have HR1:=Lib.hid (Kd.R_below HR.out hb1)
    clear HR
    go_wp2_with (at_builtin;refine Kd.R_append LineK (w0:=w) w.heap.size rfl (.tmp 15) (.tmp 19) 80 83 (.agg #[.string ⟨#[]⟩,.bool false]) 24 rfl Tryz.underlying80 info_line rfl (by decide) (by decide) _ out (⟨y.1.toArray⟩,true) [.string ⟨y.1.toArray⟩,.bool true] (fun _=>True) (fun _=>False) rfl rfl ?aP ?aK ?aF ?aO ?aB ?aS ?aL ?_;(case aP=>exact line_mk _ _ _ _ _);(case aK=>exact fun j hj=>hj.elim);(case aF=>exact fun _ _=>trivial);(case aO=>exact HR1.out);(case aB=>exact hb');(case aS=>exact hb'.size);(case aL=>omega);intro v2 w2 ho2 hb2 hg2 hat2;have HO2:=Lib.hid ho2;clear ho2 hg2 hat2)
    go_roundw
    case rel=>exact ⟨⟨y.2.toArray⟩,_,out++[(⟨y.1.toArray⟩,true)],rfl,rfl,by have:=HH.out;simp only [List.length_append,List.length_cons,List.length_nil,mk_sizeB];omega,HO2,hb2,Lib.hid (by rw [HL2.out];simp)⟩
    case measure=>have:=HH.out;simp [mk_sizeB];omega
   | none =>
    have hlin:=lines_none hpos hcut
    rw [hlin] at HL2
    rw [hcut] at HX
    simp only at HX
    have hpz:1≤x.size:=by
     rw [Lib.size_eq]
     rcases Nat.eq_zero_or_pos x.data.toList.length with h | h
     ·exact absurd (List.eq_nil_of_length_eq_zero h) hpos
     ·exact h
    have HXE:=Lib.hid (show (⟨x.data.toList.toArray⟩:ByteArray)=x by apply ByteArray.ext;simp)
    rw [HXE.out] at HL2
    clear hcut hlin hpos hCC
    go_wp2_with fail
    refine HX.out.mono ?_
    rintro e w1 ⟨rfl,hb1⟩
    have hb':=bstep hb hsz hb1
    have HR1:=Lib.hid (Kd.R_below HR.out hb1)
    clear HR
    go_wp2_with (at_builtin;refine Kd.R_append LineK (w0:=w) w.heap.size rfl (.tmp 15) (.tmp 19) 80 83 (.agg #[.string ⟨#[]⟩,.bool false]) 24 rfl Tryz.underlying80 info_line rfl (by decide) (by decide) _ out (x,false) [.string x,.bool false] (fun _=>True) (fun _=>False) rfl rfl ?aP ?aK ?aF ?aO ?aB ?aS ?aL ?_;(case aP=>exact line_mk _ _ _ _ _);(case aK=>exact fun j hj=>hj.elim);(case aF=>exact fun _ _=>trivial);(case aO=>exact HR1.out);(case aB=>exact hb');(case aS=>exact hb'.size);(case aL=>omega);intro v2 w2 ho2 hb2 hg2 hat2;have HO2:=Lib.hid ho2;clear ho2 hg2 hat2)
    go_roundw
    case rel=>exact ⟨⟨#[]⟩,_,out++[(x,false)],rfl,rfl,by simp only [List.length_append,List.length_cons,List.length_nil];show _+0≤_;omega,HO2,hb2,Lib.hid (by rw [HL2.out,show (⟨#[]⟩:ByteArray).data.toList=[] from rfl,lines_nil];simp)⟩
    case measure=>show (⟨#[]⟩:ByteArray).size<x.size;show 0<x.size;omega
  ·have hnil:x.data.toList=[]:=by
    rw [Lib.toList_data] at he
    exact List.isEmpty_iff.1 he
   rw [hnil,lines_nil,List.append_nil] at HL2
   have HL3:=HL2.out
   subst HL3
   clear hnil HL2 HL
   go_wp2_with fail
   go_ret
   exact ⟨_,rfl,HR.out,hb⟩
end Go.Proofs.YtdnhjnlhmfajnaaGreatDoor.G
