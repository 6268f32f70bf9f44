import Derived.Test.YthlcjjhfkldmhaaGreatDoorRangeRX
import Derived.Test.YthlcjjhfkldmhaaGreatDoorIdx
import Derived.Lib.IndexLaws
import Derived.Test.YthlcjjhfkldmhaaGreatDoorPCore
set_option linter.unusedVariables false
set_option linter.unusedSimpArgs false
namespace Go.Proofs.YthlcjjhfkldmhaaGreatDoor.P
section
open Go.RowKit Go.Shelf Go.Lib Go.Proofs.YthlcjjhfkldmhaaGreatDoor.G
attribute [local go_sem] Oper.semAt_some
set_option linter.unusedVariables false
def splitB:List UInt8→List (List UInt8)
 | []=>[[]]
 | b :: r=>if b=47 then [] :: splitB r else match splitB r with
  | h :: t=>(b :: h) :: t
  | []=>[[b]]
theorem splitB_ne (l:List UInt8):splitB l≠[]:=by
 cases l with
 | nil=>simp [splitB]
 | cons b r =>
  unfold splitB
  split
  ·simp
  ·split <;> simp
theorem splitB_none:∀ {l:List UInt8},(∀ k:Nat,l[k]? ≠ some 47)→splitB l=[l]
 | [],_=>rfl
 | b :: r,h=>by
  have hb:b≠47:=fun e=>h 0 (by simp [e])
  have ih:=splitB_none (l:=r) (fun k=>by have:=h (k+1);simpa using this)
  rw [splitB,if_neg hb,ih]
theorem splitB_some:∀ {l:List UInt8} {i:Nat},l[i]? = some 47→(∀ k:Nat,k<i→l[k]? ≠ some 47)→splitB l=l.take i :: splitB (l.drop (i+1))
 | [],i,h,_=>by simp at h
 | b :: r,0,h,_=>by
  obtain rfl:b=47:=by simpa using h
  simp [splitB]
 | b :: r,i+1,h,hk=>by
  have hb:b≠47:=fun e=>hk 0 (by omega) (by simp [e])
  have ih:=splitB_some (l:=r) (i:=i) (by simpa using h) (fun k hlt=>by have:=hk (k+1) (by omega);simpa using this)
  rw [splitB,if_neg hb,ih]
  simp
def partsL (s:ByteArray):List ByteArray:=(splitB s.data.toList).map fun l=>⟨l.toArray⟩
theorem mk_data (s:ByteArray):(⟨s.data.toList.toArray⟩:ByteArray)=s:=by
 apply ByteArray.ext
 simp
theorem partsL_none {s:ByteArray} (h:Lib.indexByte s.data.toList 47 = -1):partsL s=[s]:=by
 rw [partsL,splitB_none (Lib.indexByte_none h)]
 simp only [List.map_cons,List.map_nil,mk_data]
theorem partsL_some {s:ByteArray} {i:Nat} (h:Lib.indexByte s.data.toList 47=i):partsL s=s.extract 0 i :: partsL (s.extract (i+1) s.size):=by
 obtain ⟨h1,h2⟩:=Lib.indexByte_some h
 have hi:i<s.data.toList.length:=(List.getElem?_eq_some_iff.1 h1).1
 have hsz:s.data.toList.length=s.size:=(Lib.size_eq s).symm
 rw [partsL,splitB_some h1 h2,List.map_cons]
 have e1:(⟨(s.data.toList.take i).toArray⟩:ByteArray)=s.extract 0 i:=by
  apply ByteArray.ext
  rw [ByteArray.data_extract]
  apply Array.toList_inj.1
  rw [Array.toList_extract]
  show s.data.toList.take i=(s.data.toList.drop 0).take (i - 0)
  rw [List.drop_zero,Nat.sub_zero]
 have e2:(s.extract (i+1) s.size).data.toList=s.data.toList.drop (i+1):=by
  rw [ByteArray.data_extract,Array.toList_extract]
  show (s.data.toList.drop (i+1)).take (s.size - (i+1))=_
  rw [List.take_of_length_le]
  rw [List.length_drop]
  omega
 rw [e1,partsL,e2]
theorem index_lt {s:ByteArray} {i:Nat} (h:Lib.indexByte s.data.toList 47=i):i<s.size:=by
 obtain ⟨h1,_⟩:=Lib.indexByte_some h
 have:=(List.getElem?_eq_some_iff.1 h1).1
 rw [Lib.size_eq]
 exact this
def Caught (W:World) (bp bs bq:Nat) (s:ByteArray):Prop:=Boxed W bp 9 (.string ⟨#[47]⟩)∧Boxed W bs 9 (.string s)∧Boxed W bq 3 (.int .i64 0)
noncomputable def leftOf (W:World) (bs:Nat):Nat:=match W.cell? ⟨bs,0,none⟩ with | some (.string s)=>s.size | _=>0
set_option maxHeartbeats 4000000 in
set_option maxRecDepth 100000 in
theorem split_in (n l bp bs bq:Nat) (hps:bp≠bs) (hqs:bq≠bs) (s0:ByteArray) (hs0:s0.size≤1099511627776) (J Jx:List ByteArray→World→Prop) (hJ:StepT (· = bs) J) (hJx:StepT (· = bs) Jx)
  (hY:∀ pre x W1,J pre W1→(pre++[x]) <+: partsL s0→YieldAt Fence.wide (n - 1) Tryz.prog l #[.string x] W1 fun e W' =>
   (e=.returned (.bool true)∧J (pre++[x]) W'∧(∀ k,(k=bp∨k=bs∨k=bq)→W'.heap[k]? = W1.heap[k]?))∨(e=.returned (.bool false)∧Jx (pre++[x]) W'))
  (W:World) (hc:Caught W bp bs bq s0) (h0:J [] W) :
  CallsIn Fence.wide n Tryz.prog 121 #[.func (.yield l) #[] #[],.pointer (some ⟨bp,0,none⟩),.pointer (some ⟨bs,0,none⟩),.pointer (some ⟨bq,0,none⟩)] W fun e W'=>(∃ v,e=.returned v) ∧
   (J (partsL s0) W'∨(∃ pre,pre <+: partsL s0∧Jx pre W')):=by
 refine callsIn_of_wp Tryz.func121 rfl trivial ?_ rfl
 simp only [Tryz.ntmps121,List.size_toArray,List.length_cons,List.length_nil,Nat.reduceAdd,Nat.reduceSub,Array.replicate_succ,Array.replicate_zero,List.push_toArray,List.append_toArray,List.nil_append,List.cons_append]
 have c1:=hc.1.cell
 have c2:=hc.2.1.cell
 have c3:=hc.2.2.cell
 gi_wp2
 gi_loopw [7] (fun _ wr=>∃ (pre:List ByteArray) (s:ByteArray),Caught wr bp bs bq s∧Hid (partsL s0=pre++partsL s)∧s.size≤s0.size∧J pre wr) (fun _ wr=>leftOf wr bs)
 case atStart=>exact ⟨[],s0,hc,Lib.hid rfl,Nat.le_refl _,h0⟩
 case round =>
  obtain ⟨pre,s,hcs,HP,hle,hJs⟩:=hrel
  clear c1 c2 c3 hc h0
  have c1:=hcs.1.cell
  have c2:=hcs.2.1.cell
  have c3:=hcs.2.2.cell
  have f2:=hcs.2.1.frozen
  have hge:=Lib.indexByte_ge s.data.toList 47
  have HI:=Lib.hid (fun W=>Tryz.strings_Index_one s 47 W)
  have hcase:Lib.indexByte s.data.toList 47 = -1∨∃ i:Nat,Lib.indexByte s.data.toList 47=i:=by
   rcases Int.lt_or_le (Lib.indexByte s.data.toList 47) 0 with h | h
   ·exact .inl (by omega)
   ·exact .inr ⟨(Lib.indexByte s.data.toList 47).toNat,by omega⟩
  rcases hcase with hi | ⟨i,hi⟩
  ·have HS:=Lib.hid (partsL_none hi)
   rw [hi] at HI
   clear hi hge
   obtain ⟨fn,tmps,assign,body,hy,hR⟩:=hY pre s wr hJs (by rw [HP.out,HS.out];exact List.prefix_refl _)
   gi_wp2
   refine ⟨trivial,(fun h=>by cases h),?_⟩
   refine (callsIn_wide.2 (HI.out _)).mono ?_
   rintro e w1 ⟨rfl,hw1⟩
   rw [hw1]
   gi_wp2
   refine ⟨(fun h=>by cases h),hR.mono ?_⟩
   rintro e W' (⟨rfl,hJ',hk⟩ | ⟨rfl,hJx'⟩)
   ·gi_wp2
    go_end0
    exact ⟨⟨_,rfl⟩,.inl (by rw [HP.out,HS.out];exact hJ')⟩
   ·gi_wp2
    go_end0
    exact ⟨⟨_,rfl⟩,.inr ⟨pre++[s],by rw [HP.out,HS.out];exact List.prefix_refl _,hJx'⟩⟩
  ·have HS:=Lib.hid (partsL_some hi)
   have hil:=index_lt hi
   rw [hi] at HI
   have hi2:i≤s.size:=by omega
   have hi3:i+1≤s.size:=by omega
   have hnn:((i:Int)<0)=False:=by simp
   clear hi hge
   obtain ⟨fn,tmps,assign,body,hy,hR⟩:=hY pre (s.extract 0 i) wr hJs (by rw [HP.out,HS.out];exact ⟨partsL (s.extract (i+1) s.size),by simp⟩)
   gi_wp2
   refine ⟨trivial,(fun h=>by cases h),?_⟩
   refine (callsIn_wide.2 (HI.out _)).mono ?_
   rintro e w1 ⟨rfl,hw1⟩
   rw [hw1]
   gi_wp2
   refine ⟨(fun h=>by cases h),hR.mono ?_⟩
   rintro e W' (⟨rfl,hJ',hk⟩ | ⟨rfl,hJx'⟩)
   ·have b1:Boxed W' bp 9 (.string ⟨#[47]⟩):=(hk bp (.inl rfl)).trans hcs.1
    have b2:Boxed W' bs 9 (.string s):=(hk bs (.inr (.inl rfl))).trans hcs.2.1
    have b3:Boxed W' bq 3 (.int .i64 0):=(hk bq (.inr (.inr rfl))).trans hcs.2.2
    clear c1 c2 c3 f2
    have c1:=b1.cell
    have c2:=b2.cell
    have c3:=b3.cell
    have f2:=b2.frozen
    gi_wp2
    go_roundw
    case rel=>exact ⟨pre++[s.extract 0 i],s.extract (i+1) s.size,⟨b1.other hps _,b2.set _,b3.other hqs _⟩,Lib.hid (by rw [HP.out,HS.out];simp),by rw [ByteArray.size_extract];omega,hJ _ _ _ _ hJ' (grownBy_setCell' _ _ _) (fun r e=>by cases e;rfl)⟩
    case measure =>
     have m1:(W'.setCell ⟨bs,0,none⟩ (.string (s.extract (i+1) s.size))).cell? ⟨bs,0,none⟩=some (.string (s.extract (i+1) s.size)):=(b2.set _).cell
     have m2:wr.cell? ⟨bs,0,none⟩=some (.string s):=hcs.2.1.cell
     simp only [leftOf,m1,m2,ByteArray.size_extract]
     omega
   ·gi_wp2
    refine bodyPost_ret (results_none rfl _ _ _) rfl ?_
    exact ⟨⟨_,rfl⟩,.inr ⟨pre++[s.extract 0 i],by rw [HP.out,HS.out];exact ⟨partsL (s.extract (i+1) s.size),by simp⟩,hJx'⟩⟩
def splitWorld (w:World) (s:ByteArray):World:=((w.alloc (.cells #[.string s] 9)).alloc (.cells #[.string ⟨#[47]⟩] 9)).alloc (.cells #[.int .i64 0] 3)
def splitLb (n:Nat):Array Value:=#[.pointer (some ⟨n+1,0,none⟩),.pointer (some ⟨n,0,none⟩),.pointer (some ⟨n+2,0,none⟩)]
theorem splitWorld_size (w:World) (s:ByteArray):(splitWorld w s).heap.size=w.heap.size+3:=by simp [splitWorld]
theorem split_caught (w:World) (s:ByteArray):Caught (splitWorld w s) (w.heap.size+1) w.heap.size (w.heap.size+2) s:=by
 unfold splitWorld
 have h1:=Boxed.new w 9 (.string s)
 have h2:=Boxed.new (w.alloc (.cells #[.string s] 9)) 9 (.string ⟨#[47]⟩)
 have h3:=Boxed.new ((w.alloc (.cells #[.string s] 9)).alloc (.cells #[.string ⟨#[47]⟩] 9)) 3 (.int .i64 0)
 simp only [World.size_alloc] at h2 h3
 exact ⟨h2.alloc _,(h1.alloc _).alloc _,h3⟩
theorem splitSeq_calls (s:ByteArray) (w:World) :
  Calls Tryz.prog 81 #[.string s,.string ⟨#[47]⟩] w fun e w'=>e=.returned (.func (.func 121) #[] (splitLb w.heap.size))∧w'=splitWorld w s:=by
 go_enter Tryz.func81,Tryz.ntmps81
 go_wp2
 go_ret
 exact ⟨rfl,rfl⟩
theorem split_gives (n:Nat) (w w0:World) (s:ByteArray) (k:Nat) (hc:Caught w (k+1) k (k+2) s) (hs:s.size≤1099511627776) :
  GivesT Tryz.prog n 121 (splitLb k) (fun x:ByteArray=>#[Value.string x]) (fun b=>b=k+1∨b=k∨b=k+2) (partsL s) w:=by
 intro l J Jx W hW hJ hJx hY h0
 exact split_in n l (k+1) k (k+2) (by omega) (by omega) s hs J Jx (fun s X Y row h1 h2 h3=>hJ s X Y row h1 h2 (fun r e=>.inr (.inl (h3 r e)))) (fun s X Y row h1 h2 h3=>hJx s X Y row h1 h2 (fun r e=>.inr (.inl (h3 r e)))) hY W
  ⟨(hW _ (.inl rfl)).trans hc.1,(hW _ (.inr (.inl rfl))).trans hc.2.1,(hW _ (.inr (.inr rfl))).trans hc.2.2⟩ h0
end
section
open Go.RowKit Go.Shelf Go.Lib Go.Proofs.YthlcjjhfkldmhaaGreatDoorW.PrintWords Go.Proofs.YthlcjjhfkldmhaaGreatDoorW.PrintLast Go.Proofs.YthlcjjhfkldmhaaGreatDoor.G
attribute [local go_sem] Oper.semAt_some
set_option linter.unusedVariables false
def stepAt (a:List ByteArray) (x:ByteArray):List ByteArray :=
 if x.toList.isEmpty || (x.toList == [46]) then a else if x.toList == [46,46] then a.dropLast else a++[x]
def dirB (x:ByteArray):Bool:=x.toList.isEmpty || (x.toList == [46]) || (x.toList == [46,46])
def startL (a:List ByteArray) (s:ByteArray):List ByteArray:=if s.data.toList.head? = some 47 then [] else a
def longB (x:ByteArray):Bool:=decide (255<(x.size:Int))
def normR (a:List ByteArray) (s:ByteArray):List ByteArray×Bool×Int :=
 if rightB a then
  if (s.size:Int)≤1024 then
   if s.toList.isEmpty || decide (0≤Lib.indexByte s.data.toList 0) then ([],false,20)
   else if (partsL s).any longB then ([],false,20)
   else if sizeP ((partsL s).foldl stepAt (startL a s))≤1024 then ((partsL s).foldl stepAt (startL a s),dirB ((partsL s).getLastD ⟨#[]⟩),0)
   else ([],false,4)
  else ([],false,4)
 else ([],false,20)
theorem R_turn {d:Kd ByteArray} {e base:Nat} {ok:Nat→Prop} {w w1:World} {v:Value} {xs:List ByteArray} {row:Option Nat} (h:d.R e w base ok v xs) (hg:w.grownBy w1 row)
  (hr:∀ r,row=some r→¬ ok r∨∃ o:Obj,w.heap[r]? = some o∧o.isCells=false):d.R e w1 base ok v xs:=by
 refine Kd.R_mono (Kd.R_grown (Kd.R_bound h) hg fun k hk e' => ?_) (fun k hk=>hk.1)
 obtain ⟨h1,_,_,q,_,cells,hc⟩:=hk
 rcases hr k e'.symm with h2 | ⟨o,ho,hn⟩
 ·exact h2 h1
 ·rw [hc] at ho
  cases ho
  cases hn
theorem norm_results {W:World} {b4 b5 b6:Nat} {v4 v5 v6:Value} (h4:Boxed W b4 40 v4) (h5:Boxed W b5 4 v5) (h6:Boxed W b6 30 v6) {tmps:Array Value}
  (e4:tmps.getD 4 undef=.pointer (some ⟨b4,0,none⟩)) (e5:tmps.getD 5 undef=.pointer (some ⟨b5,0,none⟩)) (e6:tmps.getD 6 undef=.pointer (some ⟨b6,0,none⟩)) :
  (results Tryz.f58 tmps).run Tryz.prog W=.ok (.tuple #[v4,v5,v6]) W:=by
 have hr:Tryz.f58.results=#[.cell 4 40,.cell 5 4,.cell 6 30]:=rfl
 have c4:=h4.cell
 have c5:=h5.cell
 have c6:=h6.cell
 rw [Array.getD_eq_getD_getElem?] at e4 e5 e6
 simp [results,e4,e5,e6,go_sem,c4,c5,c6]
theorem Boxed_below {W W':World} {B k:Nat} {t:TypeId} {v:Value} (h:Boxed W k t v) (hb:Below B W W') (hk:k<B):Boxed W' k t v:=(hb.block k hk).trans h
theorem set3 {W:World} {N:Nat} {v4 v5 v6:Value} {t4 t5 t6:TypeId} (h4:Boxed W N t4 v4) (h5:Boxed W (N+1) t5 v5) (h6:Boxed W (N+2) t6 v6) (u4 u5 u6:Value) :
  Boxed (((W.setCell ⟨N,0,none⟩ u4).setCell ⟨N+1,0,none⟩ u5).setCell ⟨N+2,0,none⟩ u6) N t4 u4 ∧
  Boxed (((W.setCell ⟨N,0,none⟩ u4).setCell ⟨N+1,0,none⟩ u5).setCell ⟨N+2,0,none⟩ u6) (N+1) t5 u5 ∧
  Boxed (((W.setCell ⟨N,0,none⟩ u4).setCell ⟨N+1,0,none⟩ u5).setCell ⟨N+2,0,none⟩ u6) (N+2) t6 u6 :=
 ⟨((h4.set u4).other (by omega) _).other (by omega) _,((h5.other (by omega) _).set u5).other (by omega) _,((h6.other (by omega) _).other (by omega) _).set u6⟩
theorem set3_below {w W:World} {N:Nat} (hb:Below N w W) (u4 u5 u6:Value):Below N w (((W.setCell ⟨N,0,none⟩ u4).setCell ⟨N+1,0,none⟩ u5).setCell ⟨N+2,0,none⟩ u6) :=
 ((hb.setCell (p:=⟨N,0,none⟩) (Nat.le_refl _) _).setCell (p:=⟨N+1,0,none⟩) (by simp) _).setCell (p:=⟨N+2,0,none⟩) (by simp) _
theorem max_run {P:Program} {W:World} (ats:Array TypeId) (ty:TypeId) (k k':IntKind) (x y:Int):(Builtin.max_ ats ty #[.int k x,.int k' y]).run P W=.ok (.int k (if x<y then y else x)) W:=by
 have h:Builtin.max_ ats ty #[.int k x,.int k' y]=(Builtin.max2 (.int k x) (.int k' y) >>= fun s=>pure s):=by simp only [Builtin.max_,List.foldlM_cons,List.foldlM_nil]
 rw [h]
 simp [Builtin.max2]
theorem appendIn {F:Fence} {n:Nat} {P:Program} {W w1:World} {ops:Array Oper} {rest:List Oper} {o:Oper} {a:Act} {Q:Exit→Act→World→Prop}
  (hg:o.guard=none) (s x:Operand) (t:TypeId) (hop:o.op=Op.call {callee:=Callee.builtin Builtin.append,args:=#[s,x],argTypes:=#[t,t]}) (v vx v1:Value) (hs:a.eval s=v) (hx:a.eval x=vx)
  (hrun:(Builtin.append_ #[t,t] o.type #[v,vx]).run P W=.ok v1 w1) (h:wpListIn F n P ops Q rest (a.put o.dst v1) w1):wpListIn F n P ops Q (o :: rest) a W:=by
 refine wpListIn_plain hg fun K hK' => ?_
 unfold Oper.wpIn
 refine ⟨?_,?_⟩
 ·simp [Oper.about,hop,resolve,Target.leads,Sem.run_pure]
 ·rw [Oper.semAt_plain F _ _ (by rw [hop];intro c hc';cases hc')]
  simp [execOp,hop,resolve,invoke,builtin,hs,hx,hrun,Result.andThen]
  exact hK' _ _ h
theorem append_name {w0 W:World} (ty:TypeId) (base:Nat) (ok:Nat→Prop) (v:Value) (l:List ByteArray) (x:ByteArray) (HO:Kd.R Kd.string 9 W base ok v l) (HB:Below base w0 W) (hbase:base≤W.heap.size) (hfresh:∀ k,W.heap.size≤k→ok k) (hl:(l.length+1) * 16≤140737488355328) :
  ∃ v1 w1,(Builtin.append_ #[40,40] ty #[v,.slice (some ⟨W.heap.size,0,none⟩) 1 1]).run Tryz.prog (W.alloc (.cells #[.string x] 9))=.ok v1 w1 ∧
   Kd.R Kd.string 9 w1 base ok v1 (l++[x])∧Below base w0 w1∧W.grownBy w1 v.ownBlock∧(v1.ownBlock=v.ownBlock∨∃ b,v1.ownBlock=some b∧W.heap.size≤b) :=
 append_run (P:=Tryz.prog) (W:=W.alloc (.cells #[.string x] 9)) (t:=40) (ty:=ty) (v:=v) (vx:=.slice (some ⟨W.heap.size,0,none⟩) 1 1)
  (R:=fun v1 w1=>Kd.R Kd.string 9 w1 base ok v1 (l++[x])∧Below base w0 w1∧W.grownBy w1 v.ownBlock∧(v1.ownBlock=v.ownBlock∨∃ b,v1.ownBlock=some b∧W.heap.size≤b))
  (o := { dst := some 0, op := .call { callee := .builtin .append, args := #[.const v, .const (.slice (some ⟨W.heap.size, 0, none⟩) 1 1)], argTypes := #[40, 40] }, type := ty, pos := "", after := #[], guard := none })
  ⟨#[undef],[]⟩ rfl rfl rfl rfl rfl
  (Kd.R_append Kd.string (w0:=w0) base rfl (.const v) (.const (.slice (some ⟨W.heap.size,0,none⟩) 1 1)) 40 9 (.string ⟨#[]⟩) 16 rfl Tryz.underlying40 info_str rfl (by decide) (by decide) v l x [.string x] ok (fun _=>False) rfl rfl rfl (fun _ hk=>hk.elim) hfresh HO HB hbase hl
   fun v1 w1 a1 a2 a3 a4=>⟨rfl,v1,rfl,a1,a2,a3,a4⟩)
def okB (N M K8 K:Nat) (k:Nat):Prop:=k≠N∧k≠N+1∧k≠N+2∧k≠M∧k≠K8∧k≠K∧k≠K+1∧k≠K+2
structure NormI (w:World) (N M K8 K:Nat) (L0:List ByteArray) (pre:List ByteArray) (W:World):Prop where
 b4:Boxed W N 40 (.slice none 0 0)
 b5:Boxed W (N+1) 4 (.bool false)
 b6:Boxed W (N+2) 30 (.int .i64 0)
 b7:∃ v,Boxed W M 40 v∧Kd.R Kd.string 9 W N (okB N M K8 K) v (pre.foldl stepAt L0)
 b8:Boxed W K8 9 (.string (pre.getLastD ⟨#[]⟩))
 below:Below N w W
 short:pre.any longB=false
structure NormX (w:World) (N:Nat) (pre:List ByteArray) (W:World):Prop where
 b4:Boxed W N 40 (.slice none 0 0)
 b5:Boxed W (N+1) 4 (.bool false)
 b6:Boxed W (N+2) 30 (.int .i64 20)
 below:Below N w W
 long:pre.any longB=true
theorem Boxed_turn {X Y:World} {b:Nat} {t:TypeId} {v:Value} (h:Boxed X b t v) {row:Option Nat} (hg:X.grownBy Y row) (hr:∀ r,row=some r→b<r):Boxed Y b t v :=
 h.kept hg (fun e=>by have:=hr b e.symm;omega)
theorem row_ge {X:World} {K B:Nat} (hB:K+3≤B) {row:Option Nat} (hr:∀ r,row=some r→(r=K+1∨r=K∨r=K+2)∨(B≤r∧∃ o:Obj,X.heap[r]? = some o∧o.isCells=false)):∀ r,row=some r→K≤r:=by
 intro r e
 rcases hr r e with h | h
 ·omega
 ·have:=h.1;omega
theorem normI_own {w:World} {N M K8 K B:Nat} {L0:List ByteArray} (h1:N+2<M) (h2:M<K8) (h3:K8<K) (hB:K+3≤B) (hN:N≤w.heap.size):OwnT (fun k=>k=K+1∨k=K∨k=K+2) B (NormI w N M K8 K L0):=by
 intro s X Y row h hg hr
 have hge:=row_ge hB hr
 obtain ⟨v,hv,hR⟩:=h.b7
 exact ⟨Boxed_turn h.b4 hg (fun r e=>by have:=hge r e;omega),Boxed_turn h.b5 hg (fun r e=>by have:=hge r e;omega),Boxed_turn h.b6 hg (fun r e=>by have:=hge r e;omega),
  ⟨v,Boxed_turn hv hg (fun r e=>by have:=hge r e;omega),R_turn hR hg (fun r e=>by
   rcases hr r e with h | h
   ·exact .inl (by unfold okB;omega)
   ·exact .inr h.2)⟩,Boxed_turn h.b8 hg (fun r e=>by have:=hge r e;omega),
  h.below.grown hg (Nat.le_trans hN h.below.size) (fun r e=>by have:=hge r e;omega),h.short⟩
theorem normX_own {w:World} {N K B:Nat} (h1:N+2<K) (hB:K+3≤B) (hN:N≤w.heap.size):OwnT (fun k=>k=K+1∨k=K∨k=K+2) B (NormX w N):=by
 intro s X Y row h hg hr
 have hge:=row_ge hB hr
 exact ⟨Boxed_turn h.b4 hg (fun r e=>by have:=hge r e;omega),Boxed_turn h.b5 hg (fun r e=>by have:=hge r e;omega),Boxed_turn h.b6 hg (fun r e=>by have:=hge r e;omega),
  h.below.grown hg (Nat.le_trans hN h.below.size) (fun r e=>by have:=hge r e;omega),h.long⟩
theorem normI_two {w W:World} {N M K8 K:Nat} {L0 pre:List ByteArray} {x:ByteArray} {v0 v1:Value} {y:Value} (h1:N+2<M) (h2:M<K8) (hx:longB x=false)
  (b4:Boxed W N 40 (.slice none 0 0)) (b5:Boxed W (N+1) 4 (.bool false)) (b6:Boxed W (N+2) 30 (.int .i64 0)) (b7:Boxed W M 40 v0) (b8:Boxed W K8 9 y)
  (hR:Kd.R Kd.string 9 W N (okB N M K8 K) v1 (stepAt (pre.foldl stepAt L0) x)) (hb:Below N w W) (hs:pre.any longB=false) :
  NormI w N M K8 K L0 (pre++[x]) ((W.setCell ⟨M,0,none⟩ v1).setCell ⟨K8,0,none⟩ (.string x)) :=
 ⟨(b4.other (by omega) _).other (by omega) _,(b5.other (by omega) _).other (by omega) _,(b6.other (by omega) _).other (by omega) _,
  ⟨v1,(b7.set _).other (by omega) _,by rw [List.foldl_append];exact Kd.R_far (Kd.R_far hR (p:=⟨M,0,none⟩) (fun k hk=>hk.2.2.2.1) _) (p:=⟨K8,0,none⟩) (fun k hk=>hk.2.2.2.2.1) _⟩,
  by simp only [List.getLastD_concat];exact (b8.other (by omega) _).set _,
  (hb.setCell (p:=⟨M,0,none⟩) (by show N≤M;omega) _).setCell (p:=⟨K8,0,none⟩) (by show N≤K8;omega) _,by rw [List.any_append,hs];simp [hx]⟩
theorem normI_one {w W:World} {N M K8 K:Nat} {L0 pre:List ByteArray} {x:ByteArray} (h1:N+2<M) (h2:M<K8) (hx:longB x=false) (h:NormI w N M K8 K L0 pre W) (he:stepAt (pre.foldl stepAt L0) x=pre.foldl stepAt L0) :
  NormI w N M K8 K L0 (pre++[x]) (W.setCell ⟨K8,0,none⟩ (.string x)):=by
 obtain ⟨v,hv,hR⟩:=h.b7
 exact ⟨h.b4.other (by omega) _,h.b5.other (by omega) _,h.b6.other (by omega) _,⟨v,hv.other (by omega) _,by rw [List.foldl_append];show Kd.R _ _ _ _ _ _ (stepAt _ x);rw [he];exact Kd.R_far hR (p:=⟨K8,0,none⟩) (fun k hk=>hk.2.2.2.2.1) _⟩,
  by simp only [List.getLastD_concat];exact h.b8.set _,h.below.setCell (p:=⟨K8,0,none⟩) (by show N≤K8;omega) _,by rw [List.any_append,h.short];simp [hx]⟩
theorem Boxed_split {W:World} {b:Nat} {t:TypeId} {v:Value} (h:Boxed W b t v) (s:ByteArray):Boxed (splitWorld W s) b t v:=((h.alloc _).alloc _).alloc _
theorem grown_split (W:World) (s:ByteArray):W.grownBy (splitWorld W s) none :=
 ⟨rfl,rfl,rfl,by rw [splitWorld_size];omega,fun k hk _=>by
  unfold splitWorld
  exact (Below.heap_alloc _ _ _ (by simp;omega)).trans ((Below.heap_alloc _ _ _ (by simp;omega)).trans (Below.heap_alloc _ _ _ hk))⟩
theorem splitB_length:∀ l:List UInt8,(splitB l).length≤l.length+1
 | []=>by simp [splitB]
 | b :: r=>by
  have ih:=splitB_length r
  unfold splitB
  split
  ·simp;omega
  ·split
   ·rename_i h;rw [h] at ih;simp at ih ⊢;omega
   ·simp
theorem partsL_length (s:ByteArray):(partsL s).length≤s.size+1:=by
 have:=splitB_length s.data.toList
 rw [← Lib.size_eq] at this
 simpa [partsL] using this
theorem stepAt_length (a:List ByteArray) (x:ByteArray):(stepAt a x).length≤a.length+1:=by
 unfold stepAt
 split
 ·omega
 ·split
  ·rw [List.length_dropLast];omega
  ·simp
theorem foldl_length (pre:List ByteArray):∀ a,(pre.foldl stepAt a).length≤a.length+pre.length:=by
 induction pre with
 | nil=>intro a;simp
 | cons x pre ih=>intro a;have h1:=ih (stepAt a x);have h2:=stepAt_length a x;simp only [List.foldl_cons,List.length_cons];omega
theorem splitB_sum:∀ l:List UInt8,((splitB l).map fun x=>1+x.length).sum=l.length+1
 | []=>by simp [splitB]
 | b :: r=>by
  have ih:=splitB_sum r
  unfold splitB
  split
  ·simp;omega
  ·split
   ·rename_i h;rw [h] at ih;simp at ih ⊢;omega
   ·rename_i h;exact absurd h (splitB_ne r)
theorem partsL_sum (s:ByteArray):sumP (partsL s)=s.size+1:=by
 have:=splitB_sum s.data.toList
 rw [← Lib.size_eq] at this
 have e:∀ l:List (List UInt8),sumP (l.map fun x=>(⟨x.toArray⟩:ByteArray))=(((l.map fun x=>1+x.length).sum:Nat):Int):=by
  intro l
  induction l with
  | nil=>simp [sumP]
  | cons x l ih =>
   have hx:(⟨x.toArray⟩:ByteArray).size=x.length:=by simp [ByteArray.size]
   simp only [sumP,List.map_cons,List.sum_cons] at ih ⊢
   rw [hx,ih]
   push_cast
   rfl
 rw [partsL,e,this]
 push_cast
 rfl
theorem sumP_dropLast (l:List ByteArray):sumP l.dropLast≤sumP l:=by
 rw [List.dropLast_eq_take]
 exact sumP_take_le l _
theorem stepAt_sum (a:List ByteArray) (x:ByteArray):sumP (stepAt a x)≤sumP a+(1+(x.size:Int)):=by
 unfold stepAt
 split
 ·omega
 ·split
  ·have:=sumP_dropLast a;omega
  ·rw [sumP_snoc];omega
theorem foldl_sum (pre:List ByteArray):∀ a,sumP (pre.foldl stepAt a)≤sumP a+sumP pre:=by
 induction pre with
 | nil=>intro a;simp [sumP]
 | cons x pre ih =>
  intro a
  have h1:=ih (stepAt a x)
  have h2:=stepAt_sum a x
  have h3:sumP (x :: pre)=1+(x.size:Int)+sumP pre:=by simp [sumP]
  rw [h3,List.foldl_cons]
  omega
theorem sumP_start (a:List ByteArray) (L0:List ByteArray) (h:L0=[]∨L0=a):sumP L0≤sumP a∧L0.length≤a.length:=by
 have:=sumP_nonneg a
 rcases h with rfl | rfl
 ·exact ⟨by simpa [sumP] using this,by simp⟩
 ·exact ⟨Int.le_refl _,Nat.le_refl _⟩
theorem finish0 {w W:World} {N D n:Nat} {u4:Value} {l:List ByteArray} {b:Bool} {k:Int} (h4:Boxed W N 40 u4) (h5:Boxed W (N+1) 4 (.bool b)) (h6:Boxed W (N+2) 30 (.int .i64 k))
  (hK:W.heap[D]? = some (.deferred (some []))) (hD:N+2<D) (hb:Below N w W) (hN:N≤w.heap.size) {ok:Nat→Prop} (hR:Kd.R Kd.string 9 W N ok u4 l) {tmps:Array Value}
  (e4:tmps.getD 4 undef=.pointer (some ⟨N,0,none⟩)) (e5:tmps.getD 5 undef=.pointer (some ⟨N+1,0,none⟩)) (e6:tmps.getD 6 undef=.pointer (some ⟨N+2,0,none⟩)) :
  bodyPostM Fence.wide n Tryz.prog Tryz.f58 (fun e w'=>∃ v,e=.returned (.tuple #[v,.bool b,.int .i64 k])∧Kd.R Kd.string 9 w' N (fun _=>True) v l∧Below N w w') .ret
   {tmps,defers:=[{target:=.collected D,args:=#[]}]} W:=by
 have g4:Boxed (W.putObj D (.deferred none)) N 40 u4:=(World.putObj_heap_other (by omega)).trans h4
 have g5:Boxed (W.putObj D (.deferred none)) (N+1) 4 (.bool b):=(World.putObj_heap_other (by omega)).trans h5
 have g6:Boxed (W.putObj D (.deferred none)) (N+2) 30 (.int .i64 k):=(World.putObj_heap_other (by omega)).trans h6
 have hg:=grownBy_putObj' W D (.deferred none)
 exact ⟨by simp,.inl ⟨_,_,rfl,run_takeDeferred hK,⟨_,norm_results g4 g5 g6 e4 e5 e6,u4,rfl,Kd.R_mono (R_turn hR hg (fun r e=>by cases e;exact .inr ⟨_,hK,rfl⟩)) (fun _ _=>trivial),
  hb.grown hg (Nat.le_trans hN hb.size) (fun r e=>by cases e;omega)⟩⟩⟩
theorem finish3 {w W:World} {N D n:Nat} {u4 v4 v5 v6:Value} {l:List ByteArray} {b:Bool} {k:Int} (h4:Boxed W N 40 v4) (h5:Boxed W (N+1) 4 v5) (h6:Boxed W (N+2) 30 v6)
  (hK:W.heap[D]? = some (.deferred (some []))) (hD:N+2<D) (hb:Below N w W) (hN:N≤w.heap.size) {ok:Nat→Prop} (hok:∀ k,ok k→k≠N∧k≠N+1∧k≠N+2) (hR:Kd.R Kd.string 9 W N ok u4 l) {tmps:Array Value}
  (e4:tmps.getD 4 undef=.pointer (some ⟨N,0,none⟩)) (e5:tmps.getD 5 undef=.pointer (some ⟨N+1,0,none⟩)) (e6:tmps.getD 6 undef=.pointer (some ⟨N+2,0,none⟩)) :
  bodyPostM Fence.wide n Tryz.prog Tryz.f58 (fun e w'=>∃ v,e=.returned (.tuple #[v,.bool b,.int .i64 k])∧Kd.R Kd.string 9 w' N (fun _=>True) v l∧Below N w w') .ret
   {tmps,defers:=[{target:=.collected D,args:=#[]}]} (((W.setCell ⟨N,0,none⟩ u4).setCell ⟨N+1,0,none⟩ (.bool b)).setCell ⟨N+2,0,none⟩ (.int .i64 k)):=by
 obtain ⟨s4,s5,s6⟩:=set3 h4 h5 h6 u4 (.bool b) (.int .i64 k)
 refine finish0 s4 s5 s6 ?_ hD (set3_below hb _ _ _) hN (Kd.R_far (Kd.R_far (Kd.R_far hR (p:=⟨N,0,none⟩) (fun k hk=>(hok k hk).1) _) (p:=⟨N+1,0,none⟩) (fun k hk=>(hok k hk).2.1) _) (p:=⟨N+2,0,none⟩) (fun k hk=>(hok k hk).2.2) _) e4 e5 e6
 rw [Below.heap_setCell _ _ _ _ (by show D≠N+2;omega),Below.heap_setCell _ _ _ _ (by show D≠N+1;omega),Below.heap_setCell _ _ _ _ (by show D≠N;omega)]
 exact hK
theorem finish3d {w W:World} {N D n:Nat} {u4 v4 v5 v6:Value} {l:List ByteArray} {b:Bool} {k:Int} (h4:Boxed W N 40 v4) (h5:Boxed W (N+1) 4 v5) (h6:Boxed W (N+2) 30 v6)
  (hK:W.heap[D]? = some (.deferred (some []))) (hD:N+2<D) (hb:Below N w W) (hN:N≤w.heap.size) {ok:Nat→Prop} (hok:∀ k,ok k→k≠N∧k≠N+1∧k≠N+2) (hR:Kd.R Kd.string 9 W N ok u4 l) {tmps:Array Value}
  (e4:tmps.getD 4 undef=.pointer (some ⟨N,0,none⟩)) (e5:tmps.getD 5 undef=.pointer (some ⟨N+1,0,none⟩)) (e6:tmps.getD 6 undef=.pointer (some ⟨N+2,0,none⟩)) :
  bodyPostM Fence.wide n Tryz.prog Tryz.f58 (fun e w'=>∃ v,e=.returned (.tuple #[v,.bool b,.int .i64 k])∧Kd.R Kd.string 9 w' N (fun _=>True) v l∧Below N w w') .ret
   {tmps,defers:=[{target:=.collected D,args:=#[]}]} (((W.setCell ⟨N,0,none⟩ u4).setCell ⟨N+1,0,none⟩ (.bool b)).setCell ⟨N+2,0,none⟩ (.int .i64 k)).drew:=by
 obtain ⟨s4,s5,s6⟩:=set3 h4 h5 h6 u4 (.bool b) (.int .i64 k)
 have hR3:=Kd.R_far (Kd.R_far (Kd.R_far hR (p:=⟨N,0,none⟩) (fun k hk=>(hok k hk).1) u4) (p:=⟨N+1,0,none⟩) (fun k hk=>(hok k hk).2.1) (.bool b)) (p:=⟨N+2,0,none⟩) (fun k hk=>(hok k hk).2.2) (.int .i64 k)
 have hK3:(((W.setCell ⟨N,0,none⟩ u4).setCell ⟨N+1,0,none⟩ (.bool b)).setCell ⟨N+2,0,none⟩ (.int .i64 k)).heap[D]? = some (.deferred (some [])):=by
  rw [Below.heap_setCell _ _ _ _ (by show D≠N+2;omega),Below.heap_setCell _ _ _ _ (by show D≠N+1;omega),Below.heap_setCell _ _ _ _ (by show D≠N;omega)]
  exact hK
 have hb3:=set3_below hb u4 (.bool b) (.int .i64 k)
 generalize ((W.setCell ⟨N,0,none⟩ u4).setCell ⟨N+1,0,none⟩ (.bool b)).setCell ⟨N+2,0,none⟩ (.int .i64 k)=W3 at *
 have hd:=bdrew (Below.refl W3.heap.size W3)
 exact finish0 (W:=W3.drew) s4 s5 s6 hK3 hD (bdrew hb3) hN (Kd.R_below hR3 hd) e4 e5 e6
attribute [local go_sem] max_run in
set_option maxHeartbeats 8000000 in
set_option maxRecDepth 100000 in
theorem normal_calls (A:Option Addr) (c:Nat) (a:List ByteArray) (s:ByteArray) (w:World) (hr:Kd.C Kd.string w A a.length a) (hc:a.length≤c) (hl:a.length≤1099511627776) (hs:sumP a≤140737488355328) :
  Calls Tryz.prog 58 #[.slice A a.length c,.string s] w fun e w'=>∃ v,e=.returned (.tuple #[v,.bool (normR a s).2.1,.int .i64 (normR a s).2.2])∧Kd.R Kd.string 9 w' w.heap.size (fun _=>True) v (normR a s).1∧Below w.heap.size w w':=by
 have H1:=Lib.hid (fun W h=>right_calls A c a W h hc (by omega) (by omega))
 have HR:=Lib.hid hr
 obtain ⟨Q,hQ⟩:∃ Q,Q=normR a s:=⟨_,rfl⟩
 rw [← hQ]
 unfold normR at hQ
 have HQ:=Lib.hid hQ
 clear hr hQ
 refine (callsIn_wide (n:=5)).1 ?_
 refine callsIn_of_wp_marks Tryz.func58 rfl trivial (wpIn_wide.2 ?_) rfl
 simp only [Tryz.ntmps58,List.size_toArray,List.length_cons,List.length_nil,Nat.reduceAdd,Nat.reduceSub,Array.replicate_succ,Array.replicate_zero,List.push_toArray,List.append_toArray,List.nil_append,List.cons_append]
 go_wp2_with fail
 have b4:=((Boxed.new w 40 (.slice none 0 0)).alloc (.cells #[.bool false] 4)).alloc (.cells #[.int .i64 0] 30)
 have b5:=(Boxed.new (w.alloc (.cells #[.slice none 0 0] 40)) 4 (.bool false)).alloc (.cells #[.int .i64 0] 30)
 have b6:=Boxed.new ((w.alloc (.cells #[.slice none 0 0] 40)).alloc (.cells #[.bool false] 4)) 30 (.int .i64 0)
 have hb0:Below w.heap.size w (((w.alloc (.cells #[.slice none 0 0] 40)).alloc (.cells #[.bool false] 4)).alloc (.cells #[.int .i64 0] 30)):=(((Below.refl _ w).alloc (Nat.le_refl _) _).alloc (by simp) _).alloc (by simp;omega) _
 have hz0:(((w.alloc (.cells #[.slice none 0 0] 40)).alloc (.cells #[.bool false] 4)).alloc (.cells #[.int .i64 0] 30)).heap.size=w.heap.size+3:=by simp
 simp only [World.size_alloc] at b5 b6
 generalize ((w.alloc (.cells #[.slice none 0 0] 40)).alloc (.cells #[.bool false] 4)).alloc (.cells #[.int .i64 0] 30)=W0 at *
 refine (H1.out _ (Kd.C_below HR.out hb0)).mono ?_
 rintro e w1 ⟨rfl,hb⟩
 replace b4:=Boxed_below b4 hb (by omega)
 replace b5:=Boxed_below b5 hb (by omega)
 replace b6:=Boxed_below b6 hb (by omega)
 have hb1:=bstep hb0 hb0.size hb
 have hz1:w.heap.size+3≤w1.heap.size:=by have:=hb.size;omega
 clear hb hb0 hz0 H1 W0
 have k4:=b4.cell
 have k5:=b5.cell
 have k6:=b6.cell
 have f4:=b4.frozen
 have f5:=b5.frozen
 have f6:=b6.frozen
 cases hR:rightB a
 ·rw [hR] at HQ
  have HQ2:Hid (Q=([],false,20)):=Lib.hid (by rw [HQ.out];rfl)
  clear HQ hR
  go_wp2_with fail
  obtain ⟨s4,s5,s6⟩:=set3 b4 b5 b6 (.slice none 0 0) (.bool false) (.int .i64 20)
  exact ⟨_,norm_results s4 s5 s6 rfl rfl rfl,_,by rw [HQ2.out],by rw [HQ2.out];exact Kd.R_nil _ _ _ _ _,set3_below hb1 _ _ _⟩
 ·have hsa:=rightB_sum hR
  rw [hR] at HQ
  simp only [if_true] at HQ
  by_cases hsz:(s.size:Int)≤1024
  ·rw [if_pos hsz] at HQ
   have HF:=Lib.hid (fun W=>Tryz.strings_Contains_one s 0 W)
   generalize hz:decide (0≤Lib.indexByte s.data.toList 0)=z at *
   cases he:s.toList.isEmpty
   ·rw [he] at HQ
    cases z
    ·have HQ2:=Lib.hid (HQ.out)
     simp only [Bool.or_self,Bool.false_eq_true,if_false] at HQ2
     clear HQ hz
     have hpos:0<s.size:=by
      rcases Nat.eq_zero_or_pos s.size with h | h
      ·have:s.toList=[]:=by rw [Lib.toList_data];exact List.length_eq_zero_iff.1 (by rw [← Lib.size_eq];exact h)
       rw [this] at he
       cases he
      ·exact h
     obtain ⟨b,hbb⟩:∃ b,s[0]'hpos=b:=⟨_,rfl⟩
     have hst:startL a s=if b=47 then [] else a:=by
      unfold startL
      have:s.data.toList.head? = some b:=by rw [List.head?_eq_getElem?,List.getElem?_eq_getElem (by rw [← Lib.size_eq];exact hpos),← hbb];rfl
      rw [this]
      simp
     have hp0:(0:Int)<(s.size:Int):=by omega
     have H2:=Lib.hid (fun W h=>clone_calls A c a W h hc (by omega))
     have HS:=Lib.hid (fun W=>splitSeq_calls s W)
     rw [hst] at HQ2
     clear hst
     cases h47:(b == 47)
     ·have hne:((b.toNat:Int) != 47)=true:=by
       rw [bne_iff_ne];intro h;have:b=47:=UInt8.toNat_inj.1 (by exact_mod_cast h);rw [this] at h47;cases h47
      have hb47:¬ b=47:=by intro h;rw [h] at h47;cases h47
      rw [if_neg hb47] at HQ2
      go_wp2_with fail
      refine (HF.out _).mono ?_
      rintro e w2 ⟨rfl,hw2⟩
      rw [hw2]
      go_wp2_with fail
      refine (H2.out _ (Kd.C_below HR.out (hb1.alloc hb1.size _))).mono ?_
      rintro e w3 ⟨v,rfl,ho,hb3⟩
      obtain ⟨A3,c3,hv3,hc3,hC3⟩:=Kd.R_reads ho
      have z1:(w1.alloc (.cells #[.slice none 0 0] 40)).heap.size=w1.heap.size+1:=by simp
      have z3:=hb3.size
      rw [z1] at z3 hb3 ho
      have d7:=Boxed_below (Boxed.new w1 40 (.slice none 0 0)) hb3 (by omega)
      have d4:=Boxed_below (b4.alloc (.cells #[.slice none 0 0] 40)) hb3 (by omega)
      have d5:=Boxed_below (b5.alloc (.cells #[.slice none 0 0] 40)) hb3 (by omega)
      have d6:=Boxed_below (b6.alloc (.cells #[.slice none 0 0] 40)) hb3 (by omega)
      have hbx:=(hb1.alloc hb1.size (.cells #[.slice none 0 0] 40)).trans (hb3.mono (by omega))
      have k7:=d7.cell
      have f7:=d7.frozen
      have HR3:=Kd.R_lower (Kd.R_mono (Kd.R_bound ho) (ok':=okB w.heap.size w1.heap.size w3.heap.size (w3.heap.size+1)) (fun k hk=>by unfold okB;have:=hk.2.1;have:=hk.2.2.1;omega)) (show w.heap.size≤w1.heap.size+1 by omega)
      have z4:(w3.setCell ⟨w1.heap.size,0,none⟩ v).heap.size=w3.heap.size:=by simp
      have B7:=(d7.set v).alloc (.cells #[.string ⟨#[]⟩] 9)
      have B8:=Boxed.new (w3.setCell ⟨w1.heap.size,0,none⟩ v) 9 (.string ⟨#[]⟩)
      have B4:=(d4.other (show w.heap.size≠w1.heap.size by omega) v).alloc (.cells #[.string ⟨#[]⟩] 9)
      have B5:=(d5.other (show w.heap.size+1≠w1.heap.size by omega) v).alloc (.cells #[.string ⟨#[]⟩] 9)
      have B6:=(d6.other (show w.heap.size+1+1≠w1.heap.size by omega) v).alloc (.cells #[.string ⟨#[]⟩] 9)
      have HB:=(hbx.setCell (p:=⟨w1.heap.size,0,none⟩) (by show w.heap.size≤w1.heap.size;omega) v).alloc (by rw [z4];omega) (.cells #[.string ⟨#[]⟩] 9)
      have hK:((w3.setCell ⟨w1.heap.size,0,none⟩ v).alloc (.cells #[.string ⟨#[]⟩] 9)).heap.size=w3.heap.size+1:=by simp
      have HRow:=Kd.R_grown (Kd.R_far HR3 (p:=⟨w1.heap.size,0,none⟩) (fun k hk=>hk.2.2.2.1) v) (World.grownBy_alloc _ (.cells #[.string ⟨#[]⟩] 9) none) (fun k _ h=>by cases h)
      rw [z4] at B8
      have hM8:w1.heap.size<w3.heap.size:=by omega
      rw [hv3] at B7 B8 B4 B5 B6 HB hK HRow
      clear HR3 ho
      go_wp2_with fail
      refine (HS.out _).mono ?_
      rintro e w9 ⟨rfl,rfl⟩
      generalize hK8:w3.heap.size=K8 at *
      generalize ((w3.setCell ⟨w1.heap.size,0,none⟩ (.slice A3 a.length c3)).alloc (.cells #[.string ⟨#[]⟩] 9))=W2 at *
      go_wp2_with fail
      have I0:NormI w w.heap.size w1.heap.size K8 (K8+1) a [] (splitWorld W2 s) :=
       ⟨Boxed_split B4 s,Boxed_split B5 s,Boxed_split B6 s,⟨_,Boxed_split B7 s,Kd.R_grown HRow (grown_split W2 s) (fun k _ h=>by cases h)⟩,Boxed_split B8 s,HB.grown (grown_split W2 s) HB.size (fun k h=>by cases h),rfl⟩
      have hC:=split_caught W2 s
      have hz:=splitWorld_size W2 s
      rw [hK] at hC hz
      have hNM:w.heap.size+2<w1.heap.size:=by omega
      clear B4 B5 B6 B7 B8 HB hK HRow b4 b5 b6 k4 k5 k6 f4 f5 f6 hb1
      generalize splitWorld W2 s=W3 at *
      refine (wpIn_wide (n:=5)).1 ?_
      apply wpIn_rangeT (n:=5) (gf:=121) (lb:=splitLb (K8+1)) (encs:=fun x:ByteArray=>#[Value.string x]) (full:=partsL s) (T:=fun k=>k=K8+1+1∨k=K8+1∨k=K8+1+2)
       (I:=NormI w w.heap.size w1.heap.size K8 (K8+1) a) (Ix:=NormX w w.heap.size)
      case hg=>rfl
      case eg=>exact enters_of Tryz.func121 (by kernel_rfl) rfl
      case hT=>intro k hk;rw [hz];omega
      case hseq=>exact split_gives 4 W3 W3 s (K8+1) hC (by omega)
      case hps=>intro x;rfl
      case hI=>exact normI_own hNM hM8 (by omega) (by omega) (Nat.le_refl _)
      case hIx=>exact normX_own (by omega) (by omega) (Nat.le_refl _)
      case h0=>exact I0
      case hassign =>
       intro l x W K hK
       gi_wp2
       exact hK
      case hbody =>
       intro l pre x W hl hlW hI hpx
       have hp1:pre.length+1≤1025:=by
        have h1:=hpx.length_le
        have h2:=partsL_length s
        simp at h1
        omega
       obtain ⟨v,b7,hR⟩:=hI.b7
       have hf1:=foldl_length pre a
       have hl0:=(sumP_start a a (.inr rfl)).2
       have hI1:=fun h1 h2=>normI_one (x:=x) hNM hM8 h1 hI h2
       have hstep:=fun v1 W1 c1 c2 c3 c4 c5 c6 c7 c8=>normI_two (w:=w) (K:=K8+1) (W:=W1) (L0:=a) (pre:=pre) (x:=x) (v0:=v) (v1:=v1) (y:=.string (pre.getLastD ⟨#[]⟩)) hNM hM8 c1 c2 c3 c4 c5 c6 c7 c8 hI.short
       generalize pre.foldl stepAt a=q at *
       obtain ⟨A7,c7,hv7,hc7,hC7⟩:=Kd.R_reads hR
       have hk:=hI.b4.lt
       have k4:=hI.b4.cell
       have k5:=hI.b5.cell
       have k6:=hI.b6.cell
       have k7:=b7.cell
       have k8:=hI.b8.cell
       have f4:=hI.b4.frozen
       have f5:=hI.b5.frozen
       have f6:=hI.b6.frozen
       have f7:=b7.frozen
       have f8:=hI.b8.frozen
       cases hx:longB x
       ·have hx2:¬ (255<(x.size:Int)):=of_decide_eq_false hx
        have hx3:(x.size:Int)≤255:=by omega
        cases e1:x.toList.isEmpty
        ·cases e2:(x.toList == [46])
         ·cases e3:(x.toList == [46,46])
          ·have hst:stepAt q x=q++[x]:=by simp [stepAt,e1,e2,e3]
           have hsize:w.heap.size≤W.heap.size:=hI.below.size
           have o1:=hI.b4.lt
           have o2:=hI.b5.lt
           have o3:=hI.b6.lt
           have o4:=b7.lt
           have o5:=hI.b8.lt
           obtain ⟨v1,w1',hrun,hR1,hB1,hg1,hat⟩:=append_name (w0:=w) 40 w.heap.size (okB w.heap.size w1.heap.size K8 (K8+1)) v q x hR hI.below hsize (fun k hk=>by unfold okB;omega) (by omega)
           obtain ⟨A1,c1,hv1,hc1,hC1⟩:=Kd.R_reads hR1
           rw [show (q++[x]).length=q.length+1 by simp] at hv1
           have hKO:KeepsOthers W w1':=KeepsOthers.of_grownBy hg1 (fun j o ej hj=>by
            obtain ⟨_,_,_,t,_,cells,hc⟩:=(Kd.R_bound hR).1 j ej
            rw [hc] at hj
            cases hj
            rfl)
           have own4:∀ b,b<W.heap.size→(∀ k,okB w.heap.size w1.heap.size K8 (K8+1) k→k≠b)→some b≠v.ownBlock:=fun b hb h e=>h b (hR.1 b e.symm) rfl
           have d4:=hI.b4.kept hg1 (own4 _ o1 (fun k h=>h.1))
           have d5:=hI.b5.kept hg1 (own4 _ o2 (fun k h=>h.2.1))
           have d6:=hI.b6.kept hg1 (own4 _ o3 (fun k h=>h.2.2.1))
           have d7:=b7.kept hg1 (own4 _ o4 (fun k h=>h.2.2.2.1))
           have d8:=hI.b8.kept hg1 (own4 _ o5 (fun k h=>h.2.2.2.2.1))
           have g7:=d7.cell
           have g8:=d8.cell
           have j7:=d7.frozen
           have j8:=d8.frozen
           have HN:=Lib.hid (hstep v1 w1' hx d4 d5 d6 d7 d8 (by rw [hst];exact hR1) hB1)
           rw [hv1] at HN hrun
           rw [hv7] at hrun
           rw [hv7] at k7
           gi_wp2_with (gi_at_builtin;refine appendIn rfl (.tmp 33) (.tmp 35) 40 rfl _ _ _ rfl rfl hrun ?_)
           refine ⟨((hKO.trans (KeepsOthers.setCell _ _ _)).trans (KeepsOthers.setCell _ _ _)).from _,fun k hk => ?_,HN.out⟩
           rw [Below.heap_setCell _ _ _ _ (by show k≠K8;omega),Below.heap_setCell _ _ _ _ (by show k≠w1.heap.size;omega)]
           exact hg1.block k (by omega) (own4 k (by omega) (fun k' h=>by unfold okB at h;omega))
          ·rcases Nat.eq_zero_or_pos q.length with hq | hq
           ·obtain rfl:=List.length_eq_zero_iff.1 hq
            have hst:stepAt [] x=[]:=by simp [stepAt,e1,e2,e3]
            have HN:=Lib.hid (hstep v W hx hI.b4 hI.b5 hI.b6 b7 hI.b8 (by rw [hst];exact hR) hI.below)
            rw [hv7] at HN k7
            have cut:∀ W,(Instr.slice 40 (.slice A7 0 c7) none (some (.int .i64 0)) none).run Tryz.prog W=.ok (.slice A7 0 c7) W:=by
             obtain ⟨i9,hi9,hz9,hz1,hz2⟩:=info_parts info_str
             exact (print_take_of (P:=Tryz.prog) Value.string ByteArray.empty 40 9 .i64 Tryz.underlying40 hi9 hz1 A7 c7 [] 0 (by omega) (by simp) hc7).1
            gi_wp2
            refine ⟨((KeepsOthers.setCell _ _ _).trans (KeepsOthers.setCell _ _ _)).from _,fun k hk => ?_,HN.out⟩
            rw [Below.heap_setCell _ _ _ _ (by show k≠K8;omega),Below.heap_setCell _ _ _ _ (by show k≠w1.heap.size;omega)]
           ·obtain ⟨k,hk1⟩:∃ k,q.length=k+1:=⟨q.length - 1,by omega⟩
            have hst:stepAt q x=q.dropLast:=by simp [stepAt,e1,e2,e3]
            have cut:∀ W,(Instr.slice 40 (.slice A7 (k+1) c7) none (some (.int .i64 (k:Int))) none).run Tryz.prog W=.ok (.slice A7 k c7) W:=by
             obtain ⟨i9,hi9,hz9,hz1,hz2⟩:=info_parts info_str
             have:=(print_take_of (P:=Tryz.prog) Value.string ByteArray.empty 40 9 .i64 Tryz.underlying40 hi9 hz1 A7 c7 q k (by omega) (by omega) hc7).1
             rw [Int.toNat_natCast,List.length_take,hk1,Nat.min_eq_left (by omega)] at this
             exact this
            rw [hk1] at hv7
            rw [hv7] at hR k7
            have hR1:=Kd.R_take hR (m:=k) (by omega)
            have HN:=Lib.hid (hstep (.slice A7 k c7) W hx hI.b4 hI.b5 hI.b6 b7 hI.b8 (by rw [hst,List.dropLast_eq_take,hk1];exact hR1) hI.below)
            have hkk:(k:Int)≤1099511630000:=by omega
            gi_wp2
            refine ⟨((KeepsOthers.setCell _ _ _).trans (KeepsOthers.setCell _ _ _)).from _,fun k hk => ?_,HN.out⟩
            rw [Below.heap_setCell _ _ _ _ (by show k≠K8;omega),Below.heap_setCell _ _ _ _ (by show k≠w1.heap.size;omega)]
         ·have HN:=Lib.hid (hI1 hx (by simp [stepAt,e1,e2]))
          gi_wp2
          refine ⟨(KeepsOthers.setCell _ _ _).from _,fun k hk => ?_,HN.out⟩
          rw [Below.heap_setCell _ _ _ _ (by show k≠K8;omega)]
        ·have HN:=Lib.hid (hI1 hx (by simp [stepAt,e1]))
         gi_wp2
         refine ⟨(KeepsOthers.setCell _ _ _).from _,fun k hk => ?_,HN.out⟩
         rw [Below.heap_setCell _ _ _ _ (by show k≠K8;omega)]
       ·have hx2:255<(x.size:Int):=of_decide_eq_true hx
        gi_wp2
        obtain ⟨s4,s5,s6⟩:=set3 hI.b4 hI.b5 hI.b6 (.slice none 0 0) (.bool false) (.int .i64 20)
        exact ⟨(((KeepsOthers.setCell _ _ _).trans (KeepsOthers.setCell _ _ _)).trans (KeepsOthers.setCell _ _ _)).from _,s4,s5,s6,set3_below hI.below _ _ _,by rw [List.any_append];simp [hx]⟩
      case hdone =>
       intro D W hD hI hK
       obtain ⟨v,b7,hR⟩:=hI.b7
       have hlast:=hI.b8
       obtain ⟨A7,c7,hv7,hc7,hC7⟩:=Kd.R_reads hR
       rw [hI.short] at HQ2
       simp only [Bool.false_eq_true,if_false] at HQ2
       have hf1:=foldl_length (partsL s) a
       have hp1:=partsL_length s
       obtain ⟨hl1,hl0⟩:=sumP_start a a (.inr rfl)
       have hq2:=foldl_sum (partsL s) a
       rw [partsL_sum] at hq2
       generalize (partsL s).foldl stepAt a=q at *
       have hq1:sumP q≤4611686018427387904:=by omega
       have H3:=Lib.hid (fun W h=>size_calls A7 c7 q W h hc7 hq1 (by omega))
       have hk:=hI.b4.lt
       have k4:=hI.b4.cell
       have k5:=hI.b5.cell
       have k6:=hI.b6.cell
       have k7:=b7.cell
       have k8:=hI.b8.cell
       have f4:=hI.b4.frozen
       have f5:=hI.b5.frozen
       have f6:=hI.b6.frozen
       rw [hv7] at k7
       go_wp2_with fail
       refine (H3.out _ hC7).mono ?_
       rintro e w4 ⟨rfl,hw4⟩
       rw [hw4]
       by_cases hsz:sizeP q≤1024
       ·rw [if_pos hsz] at HQ2
        unfold dirB at HQ2
        have HQ3:=Lib.hid HQ2
        clear HQ2
        generalize (partsL s).getLastD ⟨#[]⟩=last at *
        have HFin:=fun (tmps:Array Value) (bb:Bool) h1 h2 h3=>finish3d (n:=5) (b:=bb) (k:=0) hI.b4 hI.b5 hI.b6 hK (by omega) hI.below (Nat.le_refl _) (ok:=okB w.heap.size w1.heap.size K8 (K8+1)) (fun k h=>⟨h.1,h.2.1,h.2.2.1⟩) (hv7 ▸ hR) (tmps:=tmps) h1 h2 h3
        cases d1:last.toList.isEmpty
        ·cases d2:(last.toList == [46])
         ·cases d3:(last.toList == [46,46])
          all_goals
           rw [d1,d2,d3] at HQ3
           go_wp2_with fail
           go_region
           all_goals
            go_wp2_with fail
            rw [HQ3.out]
            exact HFin _ _ rfl rfl rfl
         ·rw [d1,d2] at HQ3
          go_wp2_with fail
          go_region
          all_goals
           go_wp2_with fail
           rw [HQ3.out]
           exact HFin _ _ rfl rfl rfl
        ·rw [d1] at HQ3
         go_wp2_with fail
         go_region
         all_goals
          go_wp2_with fail
          rw [HQ3.out]
          exact HFin _ _ rfl rfl rfl
       ·rw [if_neg hsz] at HQ2
        have HQ3:Hid (Q=([],false,4)):=Lib.hid HQ2
        clear HQ2
        go_wp2_with fail
        rw [HQ3.out]
        exact finish3 hI.b4 hI.b5 hI.b6 hK (by omega) hI.below (Nat.le_refl _) (ok:=fun k=>k≠w.heap.size∧k≠w.heap.size+1∧k≠w.heap.size+2) (fun k h=>h) (Kd.R_nil _ _ _ _ _) rfl rfl rfl
      case hstop =>
       intro D pre W hD hpre hX hK
       have hlong:(partsL s).any longB=true:=by
        obtain ⟨r,hr⟩:=hpre
        rw [← hr,List.any_append,hX.long]
        rfl
       rw [hlong] at HQ2
       have HQ3:Hid (Q=([],false,20)):=Lib.hid (by rw [HQ2.out];rfl)
       clear HQ2
       refine wpIn_wide.2 ?_
       go_wp2_with fail
       rw [HQ3.out]
       exact finish0 hX.b4 hX.b5 hX.b6 hK (by omega) hX.below (Nat.le_refl _) (ok:=fun _=>True) (Kd.R_nil _ _ _ _ _) rfl rfl rfl
     ·have hne:((b.toNat:Int) != 47)=false:=by
       have:b=47:=by simpa using h47
       rw [this];rfl
      have hb47:b=47:=by simpa using h47
      rw [if_pos hb47] at HQ2
      go_wp2_with fail
      refine (HF.out _).mono ?_
      rintro e w2 ⟨rfl,hw2⟩
      rw [hw2]
      go_wp2_with fail
      refine (HS.out _).mono ?_
      rintro e w3 ⟨rfl,rfl⟩
      have B7:=(Boxed.new w1 40 (.slice none 0 0)).alloc (.cells #[.string ⟨#[]⟩] 9)
      have B8:=Boxed.new (w1.alloc (.cells #[.slice none 0 0] 40)) 9 (.string ⟨#[]⟩)
      have B4:=(b4.alloc (.cells #[.slice none 0 0] 40)).alloc (.cells #[.string ⟨#[]⟩] 9)
      have B5:=(b5.alloc (.cells #[.slice none 0 0] 40)).alloc (.cells #[.string ⟨#[]⟩] 9)
      have B6:=(b6.alloc (.cells #[.slice none 0 0] 40)).alloc (.cells #[.string ⟨#[]⟩] 9)
      have HB:=(hb1.alloc hb1.size (.cells #[.slice none 0 0] 40)).alloc (by have:=hb1.size;simp;omega) (.cells #[.string ⟨#[]⟩] 9)
      have hK:((w1.alloc (.cells #[.slice none 0 0] 40)).alloc (.cells #[.string ⟨#[]⟩] 9)).heap.size=w1.heap.size+1+1:=by simp
      simp only [World.size_alloc] at B8
      have hM8:w1.heap.size<w1.heap.size+1:=by omega
      generalize hK8:w1.heap.size+1=K8 at *
      generalize ((w1.alloc (.cells #[.slice none 0 0] 40)).alloc (.cells #[.string ⟨#[]⟩] 9))=W2 at *
      have HRow:Kd.R Kd.string 9 W2 w.heap.size (okB w.heap.size w1.heap.size K8 (K8+1)) (.slice none 0 0) []:=Kd.R_nil _ _ _ _ _
      go_wp2_with fail
      have I0:NormI w w.heap.size w1.heap.size K8 (K8+1) [] [] (splitWorld W2 s) :=
       ⟨Boxed_split B4 s,Boxed_split B5 s,Boxed_split B6 s,⟨_,Boxed_split B7 s,Kd.R_grown HRow (grown_split W2 s) (fun k _ h=>by cases h)⟩,Boxed_split B8 s,HB.grown (grown_split W2 s) HB.size (fun k h=>by cases h),rfl⟩
      have hC:=split_caught W2 s
      have hz:=splitWorld_size W2 s
      rw [hK] at hC hz
      have hNM:w.heap.size+2<w1.heap.size:=by omega
      clear B4 B5 B6 B7 B8 HB hK HRow b4 b5 b6 k4 k5 k6 f4 f5 f6 hb1
      generalize splitWorld W2 s=W3 at *
      refine (wpIn_wide (n:=5)).1 ?_
      apply wpIn_rangeT (n:=5) (gf:=121) (lb:=splitLb (K8+1)) (encs:=fun x:ByteArray=>#[Value.string x]) (full:=partsL s) (T:=fun k=>k=K8+1+1∨k=K8+1∨k=K8+1+2)
       (I:=NormI w w.heap.size w1.heap.size K8 (K8+1) []) (Ix:=NormX w w.heap.size)
      case hg=>rfl
      case eg=>exact enters_of Tryz.func121 (by kernel_rfl) rfl
      case hT=>intro k hk;rw [hz];omega
      case hseq=>exact split_gives 4 W3 W3 s (K8+1) hC (by omega)
      case hps=>intro x;rfl
      case hI=>exact normI_own hNM hM8 (by omega) (by omega) (Nat.le_refl _)
      case hIx=>exact normX_own (by omega) (by omega) (Nat.le_refl _)
      case h0=>exact I0
      case hassign =>
       intro l x W K hK
       gi_wp2
       exact hK
      case hbody =>
       intro l pre x W hl hlW hI hpx
       have hp1:pre.length+1≤1025:=by
        have h1:=hpx.length_le
        have h2:=partsL_length s
        simp at h1
        omega
       obtain ⟨v,b7,hR⟩:=hI.b7
       have hf1:=foldl_length pre []
       have hl0:=(sumP_start a [] (.inl rfl)).2
       have hI1:=fun h1 h2=>normI_one (x:=x) hNM hM8 h1 hI h2
       have hstep:=fun v1 W1 c1 c2 c3 c4 c5 c6 c7 c8=>normI_two (w:=w) (K:=K8+1) (W:=W1) (L0:=[]) (pre:=pre) (x:=x) (v0:=v) (v1:=v1) (y:=.string (pre.getLastD ⟨#[]⟩)) hNM hM8 c1 c2 c3 c4 c5 c6 c7 c8 hI.short
       generalize pre.foldl stepAt []=q at *
       obtain ⟨A7,c7,hv7,hc7,hC7⟩:=Kd.R_reads hR
       have hk:=hI.b4.lt
       have k4:=hI.b4.cell
       have k5:=hI.b5.cell
       have k6:=hI.b6.cell
       have k7:=b7.cell
       have k8:=hI.b8.cell
       have f4:=hI.b4.frozen
       have f5:=hI.b5.frozen
       have f6:=hI.b6.frozen
       have f7:=b7.frozen
       have f8:=hI.b8.frozen
       cases hx:longB x
       ·have hx2:¬ (255<(x.size:Int)):=of_decide_eq_false hx
        have hx3:(x.size:Int)≤255:=by omega
        cases e1:x.toList.isEmpty
        ·cases e2:(x.toList == [46])
         ·cases e3:(x.toList == [46,46])
          ·have hst:stepAt q x=q++[x]:=by simp [stepAt,e1,e2,e3]
           have hsize:w.heap.size≤W.heap.size:=hI.below.size
           have o1:=hI.b4.lt
           have o2:=hI.b5.lt
           have o3:=hI.b6.lt
           have o4:=b7.lt
           have o5:=hI.b8.lt
           obtain ⟨v1,w1',hrun,hR1,hB1,hg1,hat⟩:=append_name (w0:=w) 40 w.heap.size (okB w.heap.size w1.heap.size K8 (K8+1)) v q x hR hI.below hsize (fun k hk=>by unfold okB;omega) (by omega)
           obtain ⟨A1,c1,hv1,hc1,hC1⟩:=Kd.R_reads hR1
           rw [show (q++[x]).length=q.length+1 by simp] at hv1
           have hKO:KeepsOthers W w1':=KeepsOthers.of_grownBy hg1 (fun j o ej hj=>by
            obtain ⟨_,_,_,t,_,cells,hc⟩:=(Kd.R_bound hR).1 j ej
            rw [hc] at hj
            cases hj
            rfl)
           have own4:∀ b,b<W.heap.size→(∀ k,okB w.heap.size w1.heap.size K8 (K8+1) k→k≠b)→some b≠v.ownBlock:=fun b hb h e=>h b (hR.1 b e.symm) rfl
           have d4:=hI.b4.kept hg1 (own4 _ o1 (fun k h=>h.1))
           have d5:=hI.b5.kept hg1 (own4 _ o2 (fun k h=>h.2.1))
           have d6:=hI.b6.kept hg1 (own4 _ o3 (fun k h=>h.2.2.1))
           have d7:=b7.kept hg1 (own4 _ o4 (fun k h=>h.2.2.2.1))
           have d8:=hI.b8.kept hg1 (own4 _ o5 (fun k h=>h.2.2.2.2.1))
           have g7:=d7.cell
           have g8:=d8.cell
           have j7:=d7.frozen
           have j8:=d8.frozen
           have HN:=Lib.hid (hstep v1 w1' hx d4 d5 d6 d7 d8 (by rw [hst];exact hR1) hB1)
           rw [hv1] at HN hrun
           rw [hv7] at hrun
           rw [hv7] at k7
           gi_wp2_with (gi_at_builtin;refine appendIn rfl (.tmp 33) (.tmp 35) 40 rfl _ _ _ rfl rfl hrun ?_)
           refine ⟨((hKO.trans (KeepsOthers.setCell _ _ _)).trans (KeepsOthers.setCell _ _ _)).from _,fun k hk => ?_,HN.out⟩
           rw [Below.heap_setCell _ _ _ _ (by show k≠K8;omega),Below.heap_setCell _ _ _ _ (by show k≠w1.heap.size;omega)]
           exact hg1.block k (by omega) (own4 k (by omega) (fun k' h=>by unfold okB at h;omega))
          ·rcases Nat.eq_zero_or_pos q.length with hq | hq
           ·obtain rfl:=List.length_eq_zero_iff.1 hq
            have hst:stepAt [] x=[]:=by simp [stepAt,e1,e2,e3]
            have HN:=Lib.hid (hstep v W hx hI.b4 hI.b5 hI.b6 b7 hI.b8 (by rw [hst];exact hR) hI.below)
            rw [hv7] at HN k7
            have cut:∀ W,(Instr.slice 40 (.slice A7 0 c7) none (some (.int .i64 0)) none).run Tryz.prog W=.ok (.slice A7 0 c7) W:=by
             obtain ⟨i9,hi9,hz9,hz1,hz2⟩:=info_parts info_str
             exact (print_take_of (P:=Tryz.prog) Value.string ByteArray.empty 40 9 .i64 Tryz.underlying40 hi9 hz1 A7 c7 [] 0 (by omega) (by simp) hc7).1
            gi_wp2
            refine ⟨((KeepsOthers.setCell _ _ _).trans (KeepsOthers.setCell _ _ _)).from _,fun k hk => ?_,HN.out⟩
            rw [Below.heap_setCell _ _ _ _ (by show k≠K8;omega),Below.heap_setCell _ _ _ _ (by show k≠w1.heap.size;omega)]
           ·obtain ⟨k,hk1⟩:∃ k,q.length=k+1:=⟨q.length - 1,by omega⟩
            have hst:stepAt q x=q.dropLast:=by simp [stepAt,e1,e2,e3]
            have cut:∀ W,(Instr.slice 40 (.slice A7 (k+1) c7) none (some (.int .i64 (k:Int))) none).run Tryz.prog W=.ok (.slice A7 k c7) W:=by
             obtain ⟨i9,hi9,hz9,hz1,hz2⟩:=info_parts info_str
             have:=(print_take_of (P:=Tryz.prog) Value.string ByteArray.empty 40 9 .i64 Tryz.underlying40 hi9 hz1 A7 c7 q k (by omega) (by omega) hc7).1
             rw [Int.toNat_natCast,List.length_take,hk1,Nat.min_eq_left (by omega)] at this
             exact this
            rw [hk1] at hv7
            rw [hv7] at hR k7
            have hR1:=Kd.R_take hR (m:=k) (by omega)
            have HN:=Lib.hid (hstep (.slice A7 k c7) W hx hI.b4 hI.b5 hI.b6 b7 hI.b8 (by rw [hst,List.dropLast_eq_take,hk1];exact hR1) hI.below)
            have hkk:(k:Int)≤1099511630000:=by omega
            gi_wp2
            refine ⟨((KeepsOthers.setCell _ _ _).trans (KeepsOthers.setCell _ _ _)).from _,fun k hk => ?_,HN.out⟩
            rw [Below.heap_setCell _ _ _ _ (by show k≠K8;omega),Below.heap_setCell _ _ _ _ (by show k≠w1.heap.size;omega)]
         ·have HN:=Lib.hid (hI1 hx (by simp [stepAt,e1,e2]))
          gi_wp2
          refine ⟨(KeepsOthers.setCell _ _ _).from _,fun k hk => ?_,HN.out⟩
          rw [Below.heap_setCell _ _ _ _ (by show k≠K8;omega)]
        ·have HN:=Lib.hid (hI1 hx (by simp [stepAt,e1]))
         gi_wp2
         refine ⟨(KeepsOthers.setCell _ _ _).from _,fun k hk => ?_,HN.out⟩
         rw [Below.heap_setCell _ _ _ _ (by show k≠K8;omega)]
       ·have hx2:255<(x.size:Int):=of_decide_eq_true hx
        gi_wp2
        obtain ⟨s4,s5,s6⟩:=set3 hI.b4 hI.b5 hI.b6 (.slice none 0 0) (.bool false) (.int .i64 20)
        exact ⟨(((KeepsOthers.setCell _ _ _).trans (KeepsOthers.setCell _ _ _)).trans (KeepsOthers.setCell _ _ _)).from _,s4,s5,s6,set3_below hI.below _ _ _,by rw [List.any_append];simp [hx]⟩
      case hdone =>
       intro D W hD hI hK
       obtain ⟨v,b7,hR⟩:=hI.b7
       have hlast:=hI.b8
       obtain ⟨A7,c7,hv7,hc7,hC7⟩:=Kd.R_reads hR
       rw [hI.short] at HQ2
       simp only [Bool.false_eq_true,if_false] at HQ2
       have hf1:=foldl_length (partsL s) []
       have hp1:=partsL_length s
       obtain ⟨hl1,hl0⟩:=sumP_start a [] (.inl rfl)
       have hq2:=foldl_sum (partsL s) []
       rw [partsL_sum] at hq2
       generalize (partsL s).foldl stepAt []=q at *
       have hq1:sumP q≤4611686018427387904:=by omega
       have H3:=Lib.hid (fun W h=>size_calls A7 c7 q W h hc7 hq1 (by omega))
       have hk:=hI.b4.lt
       have k4:=hI.b4.cell
       have k5:=hI.b5.cell
       have k6:=hI.b6.cell
       have k7:=b7.cell
       have k8:=hI.b8.cell
       have f4:=hI.b4.frozen
       have f5:=hI.b5.frozen
       have f6:=hI.b6.frozen
       rw [hv7] at k7
       go_wp2_with fail
       refine (H3.out _ hC7).mono ?_
       rintro e w4 ⟨rfl,hw4⟩
       rw [hw4]
       by_cases hsz:sizeP q≤1024
       ·rw [if_pos hsz] at HQ2
        unfold dirB at HQ2
        have HQ3:=Lib.hid HQ2
        clear HQ2
        generalize (partsL s).getLastD ⟨#[]⟩=last at *
        have HFin:=fun (tmps:Array Value) (bb:Bool) h1 h2 h3=>finish3d (n:=5) (b:=bb) (k:=0) hI.b4 hI.b5 hI.b6 hK (by omega) hI.below (Nat.le_refl _) (ok:=okB w.heap.size w1.heap.size K8 (K8+1)) (fun k h=>⟨h.1,h.2.1,h.2.2.1⟩) (hv7 ▸ hR) (tmps:=tmps) h1 h2 h3
        cases d1:last.toList.isEmpty
        ·cases d2:(last.toList == [46])
         ·cases d3:(last.toList == [46,46])
          all_goals
           rw [d1,d2,d3] at HQ3
           go_wp2_with fail
           go_region
           all_goals
            go_wp2_with fail
            rw [HQ3.out]
            exact HFin _ _ rfl rfl rfl
         ·rw [d1,d2] at HQ3
          go_wp2_with fail
          go_region
          all_goals
           go_wp2_with fail
           rw [HQ3.out]
           exact HFin _ _ rfl rfl rfl
        ·rw [d1] at HQ3
         go_wp2_with fail
         go_region
         all_goals
          go_wp2_with fail
          rw [HQ3.out]
          exact HFin _ _ rfl rfl rfl
       ·rw [if_neg hsz] at HQ2
        have HQ3:Hid (Q=([],false,4)):=Lib.hid HQ2
        clear HQ2
        go_wp2_with fail
        rw [HQ3.out]
        exact finish3 hI.b4 hI.b5 hI.b6 hK (by omega) hI.below (Nat.le_refl _) (ok:=fun k=>k≠w.heap.size∧k≠w.heap.size+1∧k≠w.heap.size+2) (fun k h=>h) (Kd.R_nil _ _ _ _ _) rfl rfl rfl
      case hstop =>
       intro D pre W hD hpre hX hK
       have hlong:(partsL s).any longB=true:=by
        obtain ⟨r,hr⟩:=hpre
        rw [← hr,List.any_append,hX.long]
        rfl
       rw [hlong] at HQ2
       have HQ3:Hid (Q=([],false,20)):=Lib.hid (by rw [HQ2.out];rfl)
       clear HQ2
       refine wpIn_wide.2 ?_
       go_wp2_with fail
       rw [HQ3.out]
       exact finish0 hX.b4 hX.b5 hX.b6 hK (by omega) hX.below (Nat.le_refl _) (ok:=fun _=>True) (Kd.R_nil _ _ _ _ _) rfl rfl rfl
    ·have HQ2:Hid (Q=([],false,20)):=Lib.hid (by rw [HQ.out];rfl)
     clear HQ hR hz
     go_wp2_with fail
     refine (HF.out _).mono ?_
     rintro e w2 ⟨rfl,hw2⟩
     rw [hw2]
     go_wp2_with fail
     obtain ⟨s4,s5,s6⟩:=set3 b4 b5 b6 (.slice none 0 0) (.bool false) (.int .i64 20)
     exact ⟨_,norm_results s4 s5 s6 rfl rfl rfl,_,by rw [HQ2.out],by rw [HQ2.out];exact Kd.R_nil _ _ _ _ _,set3_below hb1 _ _ _⟩
   ·rw [he] at HQ
    have HQ2:Hid (Q=([],false,20)):=Lib.hid (by rw [HQ.out];rfl)
    clear HQ hR hz HF
    go_wp2_with fail
    obtain ⟨s4,s5,s6⟩:=set3 b4 b5 b6 (.slice none 0 0) (.bool false) (.int .i64 20)
    exact ⟨_,norm_results s4 s5 s6 rfl rfl rfl,_,by rw [HQ2.out],by rw [HQ2.out];exact Kd.R_nil _ _ _ _ _,set3_below hb1 _ _ _⟩
  ·rw [if_neg hsz] at HQ
   have HQ2:=Lib.hid (HQ.out:Q=([],false,4))
   clear HQ hR
   go_wp2_with fail
   obtain ⟨s4,s5,s6⟩:=set3 b4 b5 b6 (.slice none 0 0) (.bool false) (.int .i64 4)
   exact ⟨_,norm_results s4 s5 s6 rfl rfl rfl,_,by rw [HQ2.out],by rw [HQ2.out];exact Kd.R_nil _ _ _ _ _,set3_below hb1 _ _ _⟩
end
end Go.Proofs.YthlcjjhfkldmhaaGreatDoor.P
