import Derived.Test.YthlcjjhfkldmhaaGreatDoorName
import Derived.Test.YthlcjjhfkldmhaaGreatDoorQLast
import Derived.Lib.SliceRun
import Derived.BigQuiet
import Derived.Deep.RegionWith
import Derived.IntWalk
set_option linter.unusedVariables false
set_option linter.unusedSimpArgs false
namespace Go.Proofs.YthlcjjhfkldmhaaGreatDoor.P
section
open Go.RowKit Go.Lib Go.Proofs.YthlcjjhfkldmhaaGreatDoorW.PrintWords Go.Proofs.YthlcjjhfkldmhaaGreatDoorW.PrintLast Go.Proofs.YthlcjjhfkldmhaaGreatDoor.G
set_option linter.unusedVariables false
def sumP (l:List ByteArray):Int:=(l.map fun s=>1+(s.size:Int)).sum
def sizeP (l:List ByteArray):Int:=max (sumP l) 1
theorem sumP_nonneg:∀ l,0≤sumP l
 | []=>by simp [sumP]
 | s :: l=>by have:=sumP_nonneg l;simp only [sumP,List.map_cons,List.sum_cons] at *;omega
theorem sumP_take (l:List ByteArray) (k:Nat) (h:k<l.length):sumP (l.take (k+1))=sumP (l.take k)+(1+(l[k].size:Int)):=by
 unfold sumP
 rw [List.take_succ_eq_append_getElem h,List.map_append,List.sum_append]
 simp only [List.map_cons,List.map_nil,List.sum_cons,List.sum_nil,Int.add_zero]
theorem sumP_take_le (l:List ByteArray) (k:Nat):sumP (l.take k)≤sumP l:=by
 induction l generalizing k with
 | nil=>simp [sumP]
 | cons s l ih =>
  cases k with
  | zero=>simp only [List.take_zero];exact sumP_nonneg _
  | succ k=>have:=ih k;simp only [sumP,List.take_succ_cons,List.map_cons,List.sum_cons] at *;omega
set_option maxHeartbeats 1000000 in
theorem size_calls (A:Option Addr) (c:Nat) (l:List ByteArray) (w:World) (hr:Kd.C Kd.string w A l.length l) (hc:l.length≤c) (hb:sumP l≤4611686018427387904) (hl:l.length≤4611686018427387904) :
  Calls Tryz.prog 53 #[.slice A l.length c] w fun e w'=>e=.returned (.int .i64 (sizeP l))∧w'=w:=by
 have HR:=Lib.hid hr
 clear hr
 go_enter Tryz.func53,Tryz.ntmps53
 go_wp2
 go_loop [3,8] (fun n i=>∃ k:Nat,k≤l.length∧i=.int .i64 k∧n=.int .i64 (sumP (l.take k))) (fun _ i=>l.length - (RowKit.intOf i).toNat)
 case atStart=>exact ⟨0,by omega,rfl,rfl⟩
 case round =>
  obtain ⟨k,hk,rfl,rfl⟩:=hrel
  have h0:=sumP_nonneg (l.take k)
  have h1:=sumP_take_le l k
  by_cases hlt:k<l.length
  ·obtain ⟨ad,rfl,hx⟩:=Kd.at_string HR.out (k:Int) (by omega) (by omega)
   have HS:=Lib.hid (sumP_take l k hlt)
   have h2:=sumP_take_le l (k+1)
   rw [Int.toNat_natCast] at hx
   have he:rdOf ByteArray.empty l (k:Int)=l[k]:=by simp [rdOf,hlt]
   rw [he] at hx
   rw [HS.out] at h2
   clear he
   generalize l[k]=s at *
   go_wp2
   go_round
   case rel=>exact ⟨k+1,by omega,by go_num,by rw [HS.out]⟩
   case measure=>simp [RowKit.intOf];omega
  ·obtain rfl:k=l.length:=by omega
   go_wp2
   go_ret
   exact ⟨rfl,rfl⟩
theorem info_str:(Tryz.prog.info? 9).map (fun i=>(i.zero,i.size,i.bytes))=some (some (.string ⟨#[]⟩),1,16):=by kernel_rfl
theorem R_lit0 {α:Type} (d:Kd α) (e:Nat) (W:World) (base:Nat) (ok:Nat→Prop) (hb:base≤W.heap.size) (hok:∀ k,W.heap.size≤k→ok k) :
  d.R e (W.alloc (.cells #[] e)) base ok (.slice (some ⟨W.heap.size,0,none⟩) 0 0) [] :=
 ⟨fun k hk=>hok k (by simp [Value.ownBlock] at hk;omega),OwnRow.lit W base (Reps.none _ _) hb (by simp)⟩
set_option maxHeartbeats 1000000 in
theorem clone_calls (A:Option Addr) (c:Nat) (l:List ByteArray) (w:World) (hr:Kd.C Kd.string w A l.length l) (hc:l.length≤c) (hl:l.length≤8796093022208) :
  Calls Tryz.prog 34 #[.slice A l.length c] w fun e w'=>∃ v,e=.returned v∧Kd.R Kd.string 9 w' w.heap.size (fun _=>True) v l∧Below w.heap.size w w':=by
 have hq:=fun W=>Lib.run_eql_slice_nil (P:=Tryz.prog) W 40 9 A l.length c 0 0 Tryz.underlying40
 have HR:=Lib.hid hr
 clear hr
 cases A with
 | none =>
  go_enter Tryz.func34,Tryz.ntmps34
  go_wp2
  go_ret
  refine ⟨_,rfl,?_,Below.refl _ _⟩
  have:l=[]:=by
   rcases Nat.eq_zero_or_pos l.length with h | h
   ·exact List.length_eq_zero_iff.1 h
   ·obtain ⟨ad,h',_⟩:=Kd.at_string HR.out 0 (by omega) (by omega);cases h'
  subst this
  exact Kd.R_nil _ _ _ _ _
 | some ad =>
  go_enter Tryz.func34,Tryz.ntmps34
  go_wp2_with (at_builtin;refine Kd.R_append_row Value.string ByteArray.empty (h1:=fun _=>rfl) (w0:=w) w.heap.size rfl (.tmp 5) (.tmp 6) 40 9 (.string ⟨#[]⟩) 16 rfl Tryz.underlying40 info_str rfl (by decide) _ [] l (some ad) l.length c (fun _=>True) rfl rfl (fun _ _=>trivial) ?aO ?aR ?aB ?aS ?aL ?_;(case aO=>exact R_lit0 _ _ _ _ _ (Nat.le_refl _) (fun _ _=>trivial));(case aR=>exact Kd.C_below HR.out ((Below.refl _ _).alloc (Nat.le_refl _) _));(case aB=>exact (Below.refl _ _).alloc (Nat.le_refl _) _);(case aS=>simp);(case aL=>simp;omega);intro v1 w1 ho hb hg hat)
  go_ret
  exact ⟨_,rfl,ho,hb⟩
theorem notName_calls (s:ByteArray) (w:World) :
  Calls Tryz.prog 55 #[.string s] w fun e w'=>e=.returned (.bool (!nameB s.data.toList))∧Below w.heap.size w w':=by
 have hc:=fun W=>paths_Name.calls s (nameB s.data.toList) W rfl
 generalize nameB s.data.toList=b at *
 have HC:=Lib.hid hc
 clear hc
 go_enter Tryz.func55,Tryz.ntmps55
 go_wp2_with (go_at_call 56;refine (HC.out _).mono ?_;rintro e w' ⟨rfl,hb⟩)
 go_ret
 exact ⟨rfl,hb⟩
def badAt:List ByteArray→Int
 | [] => -1
 | s :: l=>if nameB s.data.toList then (if badAt l = -1 then -1 else badAt l+1) else 0
theorem badAt_ge:∀ l,-1≤badAt l
 | []=>by simp [badAt]
 | s :: l=>by have:=badAt_ge l;unfold badAt;split <;> (try split) <;> omega
theorem badAt_all (l:List ByteArray):decide (badAt l ≥ 0)=l.any fun s => !nameB s.data.toList:=by
 induction l with
 | nil=>rfl
 | cons s l ih =>
  rw [List.any_cons,← ih,badAt]
  have:=badAt_ge l
  cases nameB s.data.toList
  ·simp
  ·simp only [if_true,Bool.not_true,Bool.false_or]
   rw [decide_eq_decide]
   split
   ·simp_all
   ·omega
theorem badAt_hit {l:List ByteArray} {k:Nat} (hk:k<l.length) (h:∀ j,(hj:j<k)→nameB (l[j]'(by omega)).data.toList=true) (hn:nameB l[k].data.toList=false):badAt l=k:=by
 induction l generalizing k with
 | nil=>simp at hk
 | cons s l ih =>
  cases k with
  | zero=>simp [badAt] at hn ⊢;simp [hn]
  | succ k =>
   have h0:=h 0 (by omega)
   have:=ih (k:=k) (by simpa using hk) (fun j hj=>h (j+1) (by omega)) (by simpa using hn)
   simp at h0
   rw [badAt,h0,this]
   simp
theorem badAt_none {l:List ByteArray} (h:∀ j,(hj:j<l.length)→nameB l[j].data.toList=true):badAt l = -1:=by
 induction l with
 | nil=>rfl
 | cons s l ih =>
  have h0:=h 0 (by simp)
  have:=ih (fun j hj=>h (j+1) (by simpa using hj))
  simp at h0
  rw [badAt,h0,this]
  rfl
set_option maxHeartbeats 2000000 in
theorem indexFunc_calls (A:Option Addr) (c:Nat) (l:List ByteArray) (w:World) (hr:Kd.C Kd.string w A l.length l) (hc:l.length≤c) (hl:l.length≤8796093022208) :
  Calls Tryz.prog 76 #[.slice A l.length c,.func (.func 55) #[] #[]] w fun e w'=>e=.returned (.int .i64 (badAt l))∧Below w.heap.size w w':=by
 have HR:=Lib.hid hr
 clear hr
 go_enter Tryz.func76,Tryz.ntmps76
 go_wp2
 go_loopw [8] (fun i wr=>∃ k:Nat,k≤l.length∧i=.int .i64 k∧Below w.heap.size w wr∧Hid (∀ j,j<k→nameB (rdOf ByteArray.empty l (j:Int)).data.toList=true)) (fun i _=>l.length - (RowKit.intOf i).toNat)
 case atStart=>exact ⟨0,by omega,rfl,Below.refl _ _,Lib.hid (fun j hj=>by omega)⟩
 case round =>
  obtain ⟨k,hk,rfl,hb,HN⟩:=hrel
  have hsz:=hb.size
  by_cases hlt:k<l.length
  ·obtain ⟨ad,rfl,hx⟩:=Kd.at_string HR.out (k:Int) (by omega) (by omega)
   rw [Int.toNat_natCast] at hx
   have hx2:=(hb.cell (World.block_lt_of_cell? w _ hx)).trans hx
   clear hx
   obtain ⟨s,hs⟩:∃ s,rdOf ByteArray.empty l (k:Int)=s:=⟨_,rfl⟩
   rw [hs] at hx2
   have HS:=Lib.hid hs
   clear hs
   go_wp2_with (go_at_call 55;refine (notName_calls _ _).mono ?_;rintro e w' ⟨rfl,hb2⟩)
   ·have hn:nameB s.data.toList=false:=by
     have h:(!nameB s.data.toList)=true:=by assumption
     simpa using h
    go_ret
    refine ⟨?_,bstep hb hsz hb2⟩
    have hg:∀ j,(hj:j<l.length)→rdOf ByteArray.empty l (j:Int)=l[j]:=fun j hj=>by simp [rdOf,hj]
    rw [badAt_hit hlt (fun j hj=>by rw [← hg j (by omega)];exact HN.out j hj) (by rw [← hg k hlt,HS.out];exact hn)]
    rfl
   ·have hn:nameB s.data.toList=true:=by
     have h:(!nameB s.data.toList)=false:=by assumption
     simpa using h
    go_roundw
    case rel=>exact ⟨k+1,by omega,by go_num,bstep hb hsz hb2,Lib.hid (fun j hj=>by
     by_cases e:j=k
     ·subst e;rw [HS.out];exact hn
     ·exact HN.out j (by omega))⟩
    case measure=>simp [RowKit.intOf];omega
  ·obtain rfl:k=l.length:=by omega
   go_wp2
   go_ret
   refine ⟨?_,hb⟩
   rw [badAt_none]
   ·rfl
   ·intro j hj
    have:=HN.out j hj
    simpa [rdOf,hj] using this
theorem containsFunc_calls (A:Option Addr) (c:Nat) (l:List ByteArray) (w:World) (hr:Kd.C Kd.string w A l.length l) (hc:l.length≤c) (hl:l.length≤8796093022208) :
  Calls Tryz.prog 54 #[.slice A l.length c,.func (.func 55) #[] #[]] w fun e w'=>e=.returned (.bool (l.any fun s => !nameB s.data.toList))∧Below w.heap.size w w':=by
 have H:=Lib.hid (fun W h=>indexFunc_calls A c l W h hc hl)
 rw [← badAt_all]
 have HR:=Lib.hid hr
 clear hr
 go_enter Tryz.func54,Tryz.ntmps54
 go_wp2_with (go_at_call 76;refine (H.out _ HR.out).mono ?_;rintro e w' ⟨rfl,hb⟩)
 go_ret
 exact ⟨rfl,hb⟩
def rightB (l:List ByteArray):Bool:=decide (sizeP l≤1024) && l.all fun s=>nameB s.data.toList
theorem rightB_eq (l:List ByteArray):rightB l=(decide (sizeP l≤1024) && !(l.any fun s => !nameB s.data.toList)):=by
 unfold rightB
 congr 1
 rw [List.all_eq_not_any_not]
set_option maxHeartbeats 2000000 in
theorem right_calls (A:Option Addr) (c:Nat) (l:List ByteArray) (w:World) (hr:Kd.C Kd.string w A l.length l) (hc:l.length≤c) (hb:sumP l≤4611686018427387904) (hl:l.length≤8796093022208) :
  Calls Tryz.prog 36 #[.slice A l.length c] w fun e w'=>e=.returned (.bool (rightB l))∧Below w.heap.size w w':=by
 have H1:=Lib.hid (fun W h=>size_calls A c l W h hc hb (by omega))
 have H2:=Lib.hid (fun W h=>containsFunc_calls A c l W h hc hl)
 rw [rightB_eq]
 have HR:=Lib.hid hr
 clear hr hb
 generalize (l.any fun s => !nameB s.data.toList)=b at *
 cases hs:decide (sizeP l≤1024)
 all_goals
  generalize sizeP l=sz at *
  go_enter Tryz.func36,Tryz.ntmps36
  go_wp2_with (first | (go_at_call 53;refine (H1.out _ HR.out).mono ?_;rintro e w' ⟨rfl,rfl⟩) | (go_at_call 54;refine (H2.out _ HR.out).mono ?_;rintro e w' ⟨rfl,hb⟩))
  go_ret
  first | exact ⟨rfl,Below.refl _ _⟩ | exact ⟨by simp,hb⟩
end
section
open Go.RowKit Go.Lib Go.Proofs.YthlcjjhfkldmhaaGreatDoorW.PrintWords Go.Proofs.YthlcjjhfkldmhaaGreatDoorW.PrintLast Go.Proofs.YthlcjjhfkldmhaaGreatDoor.G
set_option linter.unusedVariables false
theorem toList_inj {x y:ByteArray}:x.toList=y.toList↔x=y:=by
 rw [Lib.toList_data,Lib.toList_data]
 constructor
 ·intro h
  exact ByteArray.ext (Array.toList_inj.1 h)
 ·rintro rfl;rfl
end
section
open Go.RowKit Go.Lib Go.Proofs.YthlcjjhfkldmhaaGreatDoorW.PrintWords Go.Proofs.YthlcjjhfkldmhaaGreatDoorW.PrintLast Go.Proofs.YthlcjjhfkldmhaaGreatDoor.G
set_option linter.unusedVariables false
end
section
open Go.RowKit Go.Lib Go.Proofs.YthlcjjhfkldmhaaGreatDoorW.PrintWords Go.Proofs.YthlcjjhfkldmhaaGreatDoorW.PrintLast Go.Proofs.YthlcjjhfkldmhaaGreatDoor.G
set_option linter.unusedVariables false
def bs (l:List UInt8):Value:=.string ⟨l.toArray⟩
theorem sumP_snoc (l:List ByteArray) (s:ByteArray):sumP (l++[s])=sumP l+(1+(s.size:Int)):=by simp [sumP,List.sum_append]
end
section
open Go.RowKit Go.Lib Go.Proofs.YthlcjjhfkldmhaaGreatDoorW.PrintWords Go.Proofs.YthlcjjhfkldmhaaGreatDoorW.PrintLast Go.Proofs.YthlcjjhfkldmhaaGreatDoor.G
set_option linter.unusedVariables false
theorem append_run {P:Program} {W:World} {t ty:TypeId} {o:Oper} {v vx:Value} {R:Value→World→Prop} (a:Act) (ha:a.tmps=#[undef]) (hgd:o.guard=none) (hd:o.dst=some 0)
  (ho:o.op=.call {callee:=.builtin .append,args:=#[.const v,.const vx],argTypes:=#[t,t]}) (hty:o.type=ty)
  (h:wpList P #[] (fun e a' w1=>e=.normal∧∃ v1,a'=a.put (some 0) v1∧R v1 w1) [o] a W) :
  ∃ v1 w1,(Builtin.append_ #[t,t] ty #[v,vx]).run P W=.ok v1 w1∧R v1 w1:=by
 have hlet:¬ LetsOut (fun e a' w1=>e=Exit.normal∧∃ v1,a'=a.put (some 0) v1∧R v1 w1):=by
  rintro ⟨a',w',h1,_⟩
  cases h1
 simp only [wpList,Region.wanted,hgd,if_true] at h
 rcases h with h | h
 ·unfold Oper.wp execOp at h
  simp only [ho,hty,resolve,invoke,builtin,Sem.run_bind,Sem.run_pure,Result.andThen_ok,List.map_toArray,List.map_cons,List.map_nil,Act.eval] at h
  generalize (Builtin.append_ #[t,t] ty #[v,vx]).run P W=r at h
  cases r with
  | ok v1 w1 =>
   simp only [Result.andThen_ok,Oper.upon,hd] at h ⊢
   obtain ⟨_,v2,h1,h2⟩:=h
   have:=congrArg Act.tmps h1
   simp [Act.put,ha] at this
   subst this
   exact ⟨_,_,rfl,h2⟩
  | halt st w1 =>
   cases st <;> simp [Result.andThen,Oper.upon] at h
 ·exact absurd h.2 hlet
theorem rightB_sum {l:List ByteArray} (h:rightB l=true):sumP l≤1024:=by
 unfold rightB sizeP at h
 simp at h
 omega
end
end Go.Proofs.YthlcjjhfkldmhaaGreatDoor.P
