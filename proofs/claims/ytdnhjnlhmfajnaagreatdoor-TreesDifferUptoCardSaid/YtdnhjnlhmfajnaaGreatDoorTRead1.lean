import Derived.Laws.IdiomRangeMap
import Derived.Test.YtdnhjnlhmfajnaaGreatDoorKit
import Derived.Test.YtdnhjnlhmfajnaaGreatDoorTUnq
import Derived.Test.YtdnhjnlhmfajnaaGreatDoorTLines
import Derived.Test.YtdnhjnlhmfajnaaGreatDoorTWords
import Derived.Test.YtdnhjnlhmfajnaaGreatDoorTCopy
import Derived.Test.YtdnhjnlhmfajnaaGreatDoorTNames
set_option linter.unusedVariables false
set_option linter.unusedSimpArgs false
section
namespace Go.Proofs.YtdnhjnlhmfajnaaGreatDoor.G
set_option linter.unusedVariables false
def calm {α:Type}:Sem α→Prop
 | .pure _=>True
 | .getObj _ k=>∀ o,calm (k o)
 | .setObj _ _ k=>calm k
 | .choose _ k=>∀ n,calm (k n)
 | .halt _=>True
 | _=>False
theorem calm_bind {α β:Type} (f:α→Sem β) (hf:∀ a,calm (f a)):∀ m:Sem α,calm m→calm (m.bind f)
 | .pure a,_=>hf a
 | .getObj r k,h=>fun o=>calm_bind f hf (k o) (h o)
 | .setObj r o k,h=>calm_bind f hf k h
 | .choose q k,h=>fun n=>calm_bind f hf (k n) (h n)
 | .halt _,_=>trivial
theorem calm_tape {P:Program} {α:Type} (m:Sem α):∀ (w:World) (v:α) (w':World),calm m→m.run P w=.ok v w'→w'.tape=w.tape:=by
 induction m with
 | pure a=>intro w v w' _ h;rw [Sem.run] at h;injection h with _ h;rw [h]
 | getObj r k ih =>
  intro w v w' hc h
  rw [Sem.run] at h
  split at h
  ·cases h
  ·exact ih _ _ _ _ (hc _) h
  ·cases h
 | setObj r o k ih =>
  intro w v w' hc h
  rw [Sem.run] at h
  split at h
  ·cases h
  ·have:=ih _ _ _ hc h
   exact this
  ·cases h
 | choose q k ih =>
  intro w v w' hc h
  rw [Sem.run] at h
  split at h
  ·exact ih _ _ _ _ (hc _) h
  ·have:=ih _ _ _ _ (hc _) h
   exact this
 | halt x=>intro w v w' _ h;rw [Sem.run] at h;cases h
 | _=>intro w v w' hc _;exact hc.elim
theorem calm_next (r:Nat) (ty:TypeId):calm (Instr.next (.pointer (some ⟨r,0,none⟩)) false ty):=by
 unfold Instr.next
 refine calm_bind _ (fun o => ?_) _ (fun o=>trivial)
 split
 ·trivial
 ·trivial
 ·refine calm_bind _ (fun o => ?_) _ (fun o=>trivial)
  split
  ·split
   ·trivial
   ·refine fun n => ?_
    simp only [Bind.bind,Sem.bind]
    split
    ·trivial
    ·trivial
    ·trivial
  ·trivial
 ·trivial
end Go.Proofs.YtdnhjnlhmfajnaaGreatDoor.G
end
section
namespace Go.Proofs.YtdnhjnlhmfajnaaGreatDoor.G
open Go.RowKit Go.Lib Go.Proofs.YtdnhjnlhmfajnaaGreatDoorW.PrintWords Go.Proofs.YtdnhjnlhmfajnaaGreatDoorW.PrintLast
set_option linter.unusedVariables false
def kindOf (x:ByteArray):Int:=if x.toList == wDir.toList then 1 else if x.toList == wText.toList then 2 else if x.toList == wLink.toList then 3 else 0
structure RowR where
 kind:Int
 data:ByteArray
 path:ByteArray
 rule:Int
def badR (k:Int):RowR:=⟨0,⟨#[]⟩,⟨#[]⟩,k⟩
def mkS (l:List UInt8):ByteArray:=⟨l.toArray⟩
def dataR (k:Int) (p:List UInt8):List UInt8→RowR
 | []=>badR 2
 | c :: r=>if c=32 then (match unq (mkS r) with
  | some x=>if r.drop x.2=[] then ⟨k,mkS x.1,mkS p,0⟩ else badR 2
  | none=>badR 2) else badR 2
def restR (k:Int) (r:List UInt8):RowR:=match unq (mkS r) with
 | some x=>if k=1 then (if r.drop x.2=[] then ⟨1,⟨#[]⟩,mkS x.1,0⟩ else badR 2) else dataR k x.1 (r.drop x.2)
 | none=>badR 2
def readR (s:ByteArray):RowR:=match cutB 32 s.data.toList with
 | none=>badR 1
 | some x=>if kindOf (mkS x.1)=0 then badR 1 else restR (kindOf (mkS x.1)) x.2
def kS (seen:Array Nat) (x:ByteArray):Int :=
 if (x.toList == wDir.toList && seen.contains 0) then 1 else if (x.toList == wText.toList && seen.contains 1) then 2 else if (x.toList == wLink.toList && seen.contains 2) then 3 else 0
theorem word_cases {e:MapEntry} (h:e∈wordE.toList):e={key:=.int .u8 1,val:=.string wDir,born:=0}∨e={key:=.int .u8 2,val:=.string wText,born:=1}∨e={key:=.int .u8 3,val:=.string wLink,born:=2}:=by
 simpa [wordE] using h
theorem blk_ltW {W:World} {k:Nat} (h:Worded W k):k<W.heap.size:=(Array.getElem?_eq_some_iff.1 h).1
theorem tape_next {P:Program} (r:Nat) (u u2:World) (o o2:Obj) (v:Value) (h:(Instr.next (.pointer (some ⟨r,0,none⟩)) false 0).run P (u.alloc o)=.ok v (u2.alloc o2)):u2.tape=u.tape :=
 calm_tape (Instr.next (.pointer (some ⟨r,0,none⟩)) false 0) (u.alloc o) v (u2.alloc o2) (calm_next r 0) h
theorem dataR_case (k:Int) (p:List UInt8) (x:ByteArray):(Lib.hasPrefix x.data.toList (⟨#[32]⟩:ByteArray).data.toList=false∧dataR k p x.data.toList=badR 2) ∨
  (Lib.hasPrefix x.data.toList (⟨#[32]⟩:ByteArray).data.toList=true∧1≤x.size∧dataR k p x.data.toList=match unq (x.extract 1 x.size) with
   | some y=>if (x.extract (1+y.2) x.size).data.toList=[] then ⟨k,mkS y.1,mkS p,0⟩ else badR 2
   | none=>badR 2):=by
 cases h:x.data.toList with
 | nil=>exact .inl ⟨rfl,rfl⟩
 | cons c r =>
  by_cases hc:c=32
  ·subst hc
   have hsz:x.size=r.length+1:=by rw [Lib.size_eq,h];rfl
   have hx:mkS r=x.extract 1 x.size:=by
    apply ByteArray.ext
    apply Array.toList_inj.1
    rw [extract_list,h,List.take_of_length_le (by simp;omega)]
    rfl
   have hd:∀ m,(x.extract (1+m) x.size).data.toList=r.drop m:=fun m=>by
    rw [extract_list,h,List.take_of_length_le (by simp;omega),Nat.add_comm 1 m,List.drop_succ_cons]
   refine .inr ⟨by simp [Lib.hasPrefix],by omega,?_⟩
   rw [dataR,if_pos rfl,hx]
   cases unq (x.extract 1 x.size) with
   | none=>rfl
   | some y=>simp only [hd]
  ·refine .inl ⟨?_,by rw [dataR,if_neg hc]⟩
   simp [Lib.hasPrefix,List.isPrefixOf]
   exact fun e=>hc e.symm
theorem cut_calls2 (s:ByteArray) (c:UInt8) (w:World) (hs:s.size≤1073741824) (hM:Maxed w) :
  Calls Tryz.prog 87 #[.string s,.string ⟨#[c]⟩] w fun e w'=>(∃ (word rest:ByteArray) (ok:Bool),e=.returned (.tuple #[.string word,.string rest,.bool ok])∧((ok=false∧cutB c s.data.toList=none)∨(ok=true∧∃ x,cutB c s.data.toList=some x∧word=mkS x.1∧rest=mkS x.2)))∧Below w.heap.size w w':=by
 refine (cut_calls s c w (by omega) hM).mono ?_
 rintro e w' ⟨rfl,hb⟩
 refine ⟨?_,hb⟩
 cases h:cutB c s.data.toList with
 | none=>exact ⟨_,_,_,rfl,.inl ⟨rfl,rfl⟩⟩
 | some x=>exact ⟨_,_,_,rfl,.inr ⟨rfl,x,rfl,rfl,rfl⟩⟩
theorem kS_none (x:ByteArray):kS #[] x=0:=by simp [kS]
theorem kS_all (seen:Array Nat) (x:ByteArray) (h0:seen.contains 0=true) (h1:seen.contains 1=true) (h2:seen.contains 2=true):kS seen x=kindOf x:=by
 unfold kS kindOf
 rw [h0,h1,h2,Bool.and_true,Bool.and_true,Bool.and_true]
theorem eq_list {x y:ByteArray}:(x.toList == y.toList)=true↔x=y:=by rw [beq_iff_eq];exact toList_inj
theorem word_ne:wDir≠wText∧wDir≠wLink∧wText≠wLink:=by
 refine ⟨fun h => ?_,fun h => ?_,fun h => ?_⟩ <;> (have:=congrArg (fun b:ByteArray=>b.data.toList) h;revert this;decide)
theorem kS_push0 (seen:Array Nat) (x:ByteArray):kS (seen.push 0) x=if (wDir.toList == x.toList)=true then 1 else kS seen x:=by
 simp only [kS,contains_push]
 by_cases h:x=wDir
 ·subst h;simp
 ·have h1:(x.toList == wDir.toList)=false:=by cases he:x.toList == wDir.toList;rfl;exact absurd (eq_list.1 he) h
  have h2:(wDir.toList == x.toList)=false:=by cases he:wDir.toList == x.toList;rfl;exact absurd (eq_list.1 he).symm h
  simp [h1,h2]
theorem kS_push1 (seen:Array Nat) (x:ByteArray):kS (seen.push 1) x=if (wText.toList == x.toList)=true then 2 else kS seen x:=by
 simp only [kS,contains_push]
 by_cases h:x=wText
 ·subst h
  have h1:(wText.toList == wDir.toList)=false:=by cases he:wText.toList == wDir.toList;rfl;exact absurd (eq_list.1 he).symm word_ne.1
  simp [h1]
 ·have h1:(x.toList == wText.toList)=false:=by cases he:x.toList == wText.toList;rfl;exact absurd (eq_list.1 he) h
  have h2:(wText.toList == x.toList)=false:=by cases he:wText.toList == x.toList;rfl;exact absurd (eq_list.1 he).symm h
  simp [h1,h2]
theorem kS_push2 (seen:Array Nat) (x:ByteArray):kS (seen.push 2) x=if (wLink.toList == x.toList)=true then 3 else kS seen x:=by
 simp only [kS,contains_push]
 by_cases h:x=wLink
 ·subst h
  have h1:(wLink.toList == wDir.toList)=false:=by cases he:wLink.toList == wDir.toList;rfl;exact absurd (eq_list.1 he).symm word_ne.2.1
  have h2:(wLink.toList == wText.toList)=false:=by cases he:wLink.toList == wText.toList;rfl;exact absurd (eq_list.1 he).symm word_ne.2.2
  simp [h1,h2]
 ·have h1:(x.toList == wLink.toList)=false:=by cases he:x.toList == wLink.toList;rfl;exact absurd (eq_list.1 he) h
  have h2:(wLink.toList == x.toList)=false:=by cases he:wLink.toList == x.toList;rfl;exact absurd (eq_list.1 he).symm h
  simp [h1,h2]
set_option maxHeartbeats 8000000 in
set_option maxRecDepth 100000 in
theorem read_calls (s:ByteArray) (w:World) (hs:s.size≤1073741824) (hG:Tab w) (hM:Maxed w) :
  Calls Tryz.prog 48 #[.string s] w fun e w'=>e=.returned (.agg #[.string ⟨#[]⟩,.int .u8 (readR s).kind,.string (readR s).data,.slice none 0 0,.string (readR s).path,.int .i64 (readR s).rule])∧Below w.heap.size w w':=by
 have hb0:=below_alloc (Below.refl w.heap.size w) (.cells #[.string ⟨#[]⟩,.int .u8 0,.string ⟨#[]⟩,.slice none 0 0,.string ⟨#[]⟩,.int .i64 0] 86)
 have hn0:=blk_new w (.cells #[.string ⟨#[]⟩,.int .u8 0,.string ⟨#[]⟩,.slice none 0 0,.string ⟨#[]⟩,.int .i64 0] 86)
 have hz0:w.heap.size<(w.alloc (.cells #[.string ⟨#[]⟩,.int .u8 0,.string ⟨#[]⟩,.slice none 0 0,.string ⟨#[]⟩,.int .i64 0] 86)).heap.size:=by simp
 have HCU:=Lib.hid (cut_calls2 s 32 _ hs (Maxed_below hM hb0))
 have HWO:=Lib.hid (fun W=>words_calls W)
 have HG:=Lib.hid hG
 have HUN:=Lib.hid (fun (x:ByteArray) W h1 h2=>unquote_calls x W h1 h2)
 obtain ⟨R,hR⟩:∃ R,readR s=R:=⟨_,rfl⟩
 rw [hR]
 unfold readR at hR
 have HR:=Lib.hid hR
 clear hG hM hR
 go_enter Tryz.func48,Tryz.ntmps48
 go_wp2_with fail
 generalize w.alloc (.cells #[.string ⟨#[]⟩,.int .u8 0,.string ⟨#[]⟩,.slice none 0 0,.string ⟨#[]⟩,.int .i64 0] 86)=W0 at *
 refine HCU.out.mono ?_
 rintro e w1 ⟨⟨word,rest,ok,rfl,hcv⟩,hb1⟩
 have hs1:=hb1.size
 have hcase:(ok=false∧R=badR 1)∨(ok=true∧rest.size≤s.size∧R=if kindOf word=0 then badR 1 else restR (kindOf word) rest.data.toList):=by
  have hh:=HR.out
  rcases hcv with ⟨h1,h2⟩ | ⟨h1,x,h2,h3,h4⟩
  ·rw [h2] at hh
   exact .inl ⟨h1,hh.symm⟩
  ·rw [h2] at hh
   have hl:=cutB_len (t:=x.1) (u:=x.2) h2
   subst h3
   subst h4
   exact .inr ⟨h1,by rw [mkS,mk_sizeB,Lib.size_eq,hl];simp;omega,hh.symm⟩
 have HCA:=Lib.hid hcase
 have hb1w:=hb0.trans (hb1.mono (by omega))
 have hn1:=(hb1.block w.heap.size (by omega)).trans hn0
 have hb6:=below_alloc (Below.refl w1.heap.size w1) (.cells #[.string ⟨#[]⟩,.int .u8 0,.string ⟨#[]⟩,.slice none 0 0,.string ⟨#[]⟩,.int .i64 0] 86)
 have hn6:=blk_new w1 (.cells #[.string ⟨#[]⟩,.int .u8 0,.string ⟨#[]⟩,.slice none 0 0,.string ⟨#[]⟩,.int .i64 0] 86)
 have hz6:w1.heap.size<(w1.alloc (.cells #[.string ⟨#[]⟩,.int .u8 0,.string ⟨#[]⟩,.slice none 0 0,.string ⟨#[]⟩,.int .i64 0] 86)).heap.size:=by simp
 clear hcv hcase HCU HR
 go_wp2_with fail
 generalize w1.alloc (.cells #[.string ⟨#[]⟩,.int .u8 0,.string ⟨#[]⟩,.slice none 0 0,.string ⟨#[]⟩,.int .i64 0] 86)=W6 at *
 refine (HWO.out _).mono ?_
 rintro e w3 ⟨rfl,hwd,hb3⟩
 have hs3:=hb3.size
 have hb3w:=hb1w.trans ((hb6.trans (hb3.mono (by omega))).mono (by omega))
 have HN2:=Lib.hid ((hb3.block w.heap.size (by omega)).trans ((hb6.block w.heap.size (by omega)).trans hn1))
 have HN6:=Lib.hid ((hb3.block w1.heap.size (by omega)).trans hn6)
 have hrg:=run_range_map (P:=Tryz.prog) w3 73 22 9 W6.heap.size wordE 3 Tryz.underlying73 hwd
 have HWD:=Lib.hid hwd
 have hmlt:=blk_ltW hwd
 clear hwd hn0 hn1 hn6 hb0 hb1 hb6 hb3
 go_wp2_with fail
 clear hrg
 go_loopw [7,8] (fun _ _ wr=>∃ (u:World) (seen:Array Nat) (k:Int),wr=u.alloc (.mapIter (some W6.heap.size) 3 seen 3)∧u.heap.size=w3.heap.size∧Hid (u.heap[W6.heap.size]? = some (.map wordE 3))∧Hid (u.heap[w.heap.size]? = some (.cells #[.string ⟨#[]⟩,.int .u8 0,.string ⟨#[]⟩,.slice none 0 0,.string ⟨#[]⟩,.int .i64 0] 86 (0,0)))
  ∧ Hid (u.heap[w1.heap.size]? = some (.cells #[.string ⟨#[]⟩,.int .u8 k,.string ⟨#[]⟩,.slice none 0 0,.string ⟨#[]⟩,.int .i64 0] 86 (0,0)))∧Hid (k=kS seen word)∧Below w.heap.size w u) (fun _ _ w'=>(leftOf wordE (w'.iterSeen w3.heap.size)).size)
 case atStart=>exact ⟨w3,#[],0,rfl,rfl,HWD,HN2,HN6,Lib.hid (kS_none word).symm,hb3w⟩
 case round =>
  obtain ⟨u,seen,k,rfl,hus,HUM,HU2,HU6,HK,hbu⟩:=hrel
  have law:=run_next_map (P:=Tryz.prog) u 0 W6.heap.size 3 3 seen wordE 3 HUM.out (by decide) (Nat.le_refl _)
  have HUS:=Lib.hid hus
  rw [hus] at law
  have hbue:=hbu.size
  have n6lt:w1.heap.size<u.heap.size:=by omega
  have nmlt:W6.heap.size<u.heap.size:=by omega
  have n2lt:w.heap.size<u.heap.size:=by omega
  clear hus
  rcases law with ⟨h0,hrun⟩ | ⟨e,he,u2,hal2,hrun⟩
  ·have hall:=all_seen wordE seen h0
   have hk:k=kindOf word:=HK.out.trans (kS_all seen word (hall {key:=.int .u8 1,val:=.string wDir,born:=0} (by simp [wordE])) (hall {key:=.int .u8 2,val:=.string wText,born:=1} (by simp [wordE])) (hall {key:=.int .u8 3,val:=.string wLink,born:=2} (by simp [wordE])))
   have hnx:∀ ty,(Instr.next (.pointer (some ⟨w3.heap.size,0,none⟩)) false ty).run Tryz.prog (u.alloc (.mapIter (some W6.heap.size) 3 seen 3))=_:=fun _=>hrun
   have hgx:=fun o=>Below.heap_alloc u o w.heap.size n2lt
   have hgy:=fun o=>Below.heap_alloc u o w1.heap.size n6lt
   have HX2:=Lib.hid ((hgx (.mapIter (some W6.heap.size) 3 seen 3)).trans HU2.out)
   have HX6:=Lib.hid ((hgy (.mapIter (some W6.heap.size) 3 seen 3)).trans HU6.out)
   have hbX:=hbu.alloc hbue (.mapIter (some W6.heap.size) 3 seen 3)
   have HHO:Hid (∀ o,o=Obj.mapIter (some W6.heap.size) 3 seen 3→u.alloc o=u.alloc o):=Lib.hid (fun _ _=>rfl)
   clear h0 hall HK hgx hgy HUM HU2 HU6 hrun
   generalize hX:u.alloc (.mapIter (some W6.heap.size) 3 seen 3)=X at *
   clear hX
   have q0:∀ j,X.frozen? ⟨w.heap.size,j,none⟩=false:=fun j=>by simp [World.frozen?,HX2.out]
   have q00:=q0 0
   have q01:=q0 1
   have q02:=q0 2
   have q03:=q0 3
   have q04:=q0 4
   have q05:=q0 5
   obtain ⟨d0,d1,d2,d3,d4,d5⟩:=c6A HX2.out
   have e1:=cell_of (j:=1) HX6.out rfl
   have p04:X.frozen? ⟨w1.heap.size,4,none⟩=false:=by simp [World.frozen?,HX6.out]
   clear q0 p04
   have HST:Hid (∀ (W:World) (h:W.heap[w.heap.size]? = some (.cells #[.string ⟨#[]⟩,.int .u8 0,.string ⟨#[]⟩,.slice none 0 0,.string ⟨#[]⟩,.int .i64 0] 86 (0,0))) (u0 u1 u2 u3 u4 u5:Value),
     ((((((W.setCell ⟨w.heap.size,0,none⟩ u0).setCell ⟨w.heap.size,1,none⟩ u1).setCell ⟨w.heap.size,2,none⟩ u2).setCell ⟨w.heap.size,3,none⟩ u3).setCell ⟨w.heap.size,4,none⟩ u4).setCell ⟨w.heap.size,5,none⟩ u5).heap[w.heap.size]? = some (.cells #[u0,u1,u2,u3,u4,u5] 86 (0,0))) :=
    Lib.hid fun W h u0 u1 u2 u3 u4 u5=>blk_put (cs:=#[u0,u1,u2,u3,u4,.int .i64 0]) (blk_put (cs:=#[u0,u1,u2,u3,.string ⟨#[]⟩,.int .i64 0]) (blk_put (cs:=#[u0,u1,u2,.slice none 0 0,.string ⟨#[]⟩,.int .i64 0]) (blk_put (cs:=#[u0,u1,.string ⟨#[]⟩,.slice none 0 0,.string ⟨#[]⟩,.int .i64 0]) (blk_put (cs:=#[u0,.int .u8 0,.string ⟨#[]⟩,.slice none 0 0,.string ⟨#[]⟩,.int .i64 0]) (blk_put (cs:=#[.string ⟨#[]⟩,.int .u8 0,.string ⟨#[]⟩,.slice none 0 0,.string ⟨#[]⟩,.int .i64 0]) h 0 _ rfl) 1 _ rfl) 2 _ rfl) 3 _ rfl) 4 _ rfl) 5 _ rfl
   have HBL:Hid (∀ (W:World),Below w.heap.size w W→∀ (u0 u1 u2 u3 u4 u5:Value),Below w.heap.size w ((((((W.setCell ⟨w.heap.size,0,none⟩ u0).setCell ⟨w.heap.size,1,none⟩ u1).setCell ⟨w.heap.size,2,none⟩ u2).setCell ⟨w.heap.size,3,none⟩ u3).setCell ⟨w.heap.size,4,none⟩ u4).setCell ⟨w.heap.size,5,none⟩ u5)) :=
    Lib.hid fun W h u0 u1 u2 u3 u4 u5=>(((((h.setCell (Nat.le_refl _) _).setCell (Nat.le_refl _) _).setCell (Nat.le_refl _) _).setCell (Nat.le_refl _) _).setCell (Nat.le_refl _) _).setCell (Nat.le_refl _) _
   rcases HCA.out with ⟨rfl,rfl⟩ | ⟨rfl,hrs,hRR⟩
   ·clear hk HCA
    have HH:=Lib.hid (HST.out X HX2.out (.string ⟨#[]⟩) (.int .u8 0) (.string ⟨#[]⟩) (.slice none 0 0) (.string ⟨#[]⟩) (.int .i64 1))
    have HB:=Lib.hid (HBL.out X hbX (.string ⟨#[]⟩) (.int .u8 0) (.string ⟨#[]⟩) (.slice none 0 0) (.string ⟨#[]⟩) (.int .i64 1))
    go_wp2_with fail
    refine bodyPost_ret (results_cell_row rfl _ _ w.heap.size 86 #[.string ⟨#[]⟩,.int .u8 0,.string ⟨#[]⟩,.slice none 0 0,.string ⟨#[]⟩,.int .i64 1] (0,0) _ rfl HH.out Tryz.underlying86 rfl (by kernel_rfl)) rfl ?_
    exact ⟨rfl,HB.out⟩
   ·by_cases hk0:k=0
    ·rw [← hk,if_pos hk0] at hRR
     subst hRR
     subst hk0
     clear hk HCA
     have HH:=Lib.hid (HST.out X HX2.out (.string ⟨#[]⟩) (.int .u8 0) (.string ⟨#[]⟩) (.slice none 0 0) (.string ⟨#[]⟩) (.int .i64 1))
     have HB:=Lib.hid (HBL.out X hbX (.string ⟨#[]⟩) (.int .u8 0) (.string ⟨#[]⟩) (.slice none 0 0) (.string ⟨#[]⟩) (.int .i64 1))
     go_wp2_with fail
     refine bodyPost_ret (results_cell_row rfl _ _ w.heap.size 86 #[.string ⟨#[]⟩,.int .u8 0,.string ⟨#[]⟩,.slice none 0 0,.string ⟨#[]⟩,.int .i64 1] (0,0) _ rfl HH.out Tryz.underlying86 rfl (by kernel_rfl)) rfl ?_
     exact ⟨rfl,HB.out⟩
    ·rw [← hk,if_neg hk0] at hRR
     have k0:(k == 0)=false:=by rw [beq_eq_false_iff_ne];exact hk0
     have HUQ:=Lib.hid (HUN.out rest X (by omega) (Tab_b HG.out hbX))
     have HRR:=Lib.hid hRR
     have hnX:=(Array.getElem?_eq_some_iff.1 HX6.out).1
     clear hRR hk hk0 HCA
     go_wp2_with fail
     refine HUQ.out.mono ?_
     rintro e w5 ⟨⟨l,n,huq,rfl⟩ | ⟨huq,m,rfl⟩,hb5⟩
     ·have hn:=unq_bound huq
      have hs5:=hb5.size
      have HY2:=Lib.hid ((hb5.block w.heap.size (by have:=hbX.size;have:=(Array.getElem?_eq_some_iff.1 HX2.out).1;omega)).trans HX2.out)
      have HY6:=Lib.hid ((hb5.block w1.heap.size hnX).trans HX6.out)
      have hbY:=bstep hbX hbX.size hb5
      clear q00 q01 q02 q03 q04 q05 d0 d1 d2 d3 d4 d5 e1
      have q0b:∀ j,w5.frozen? ⟨w.heap.size,j,none⟩=false:=fun j=>by simp [World.frozen?,HY2.out]
      have q00:=q0b 0
      have q01:=q0b 1
      have q02:=q0b 2
      have q03:=q0b 3
      have q04:=q0b 4
      have q05:=q0b 5
      obtain ⟨d0,d1,d2,d3,d4,d5⟩:=c6A HY2.out
      have p0b:∀ j,w5.frozen? ⟨w1.heap.size,j,none⟩=false:=fun j=>by simp [World.frozen?,HY6.out]
      have p02:=p0b 2
      have p04:=p0b 4
      obtain ⟨e0,e1,e2,e3,e4,e5⟩:=c6A HY6.out
      clear q0b p0b
      have hg1:(0:Int)≤(n:Int):=by omega
      have hg2:(n:Int)≤(rest.size:Int):=by omega
      have hX0:(rest.extract n rest.size).data.toList=rest.data.toList.drop n:=by rw [extract_list,List.take_of_length_le (by rw [List.length_drop,Lib.size_eq];omega)]
      have hR:=HRR.out
      rw [restR,show mkS rest.data.toList=rest by apply ByteArray.ext;simp [mkS],huq] at hR
      simp only at hR
      rw [← hX0] at hR
      have hxs:(rest.extract n rest.size).size≤s.size:=by rw [ByteArray.size_extract];omega
      clear hX0 huq HRR
      have HXX:Hid (∀ x:ByteArray,x.toList.isEmpty=decide (x.data.toList=[])):=Lib.hid fun x=>by rw [Lib.toList_data];cases x.data.toList <;> rfl
      by_cases k1:k=1
      ·subst k1
       rw [if_pos rfl] at hR
       have hEX:=HXX.out (rest.extract n rest.size)
       by_cases hE:(rest.extract n rest.size).data.toList=[]
       ·rw [if_pos hE] at hR
        rw [decide_eq_true hE] at hEX
        subst hR
        clear hE
        have HH:=Lib.hid (HST.out (w5.setCell ⟨w1.heap.size,4,none⟩ (.string ⟨l.toArray⟩)) ((Below.heap_setCell _ _ _ _ (by simp only;omega)).trans HY2.out) (.string ⟨#[]⟩) (.int .u8 1) (.string ⟨#[]⟩) (.slice none 0 0) (.string ⟨l.toArray⟩) (.int .i64 0))
        have HB:=Lib.hid (HBL.out (w5.setCell ⟨w1.heap.size,4,none⟩ (.string ⟨l.toArray⟩)) (hbY.setCell (p:=⟨w1.heap.size,4,none⟩) (by simp only;omega) (.string ⟨l.toArray⟩)) (.string ⟨#[]⟩) (.int .u8 1) (.string ⟨#[]⟩) (.slice none 0 0) (.string ⟨l.toArray⟩) (.int .i64 0))
        go_wp2_with fail
        refine bodyPost_ret (results_cell_row rfl _ _ w.heap.size 86 #[.string ⟨#[]⟩,.int .u8 1,.string ⟨#[]⟩,.slice none 0 0,.string ⟨l.toArray⟩,.int .i64 0] (0,0) _ rfl HH.out Tryz.underlying86 rfl (by kernel_rfl)) rfl ?_
        exact ⟨rfl,HB.out⟩
       ·rw [if_neg hE] at hR
        rw [decide_eq_false hE] at hEX
        subst hR
        clear hE
        have HH:=Lib.hid (HST.out (w5.setCell ⟨w1.heap.size,4,none⟩ (.string ⟨l.toArray⟩)) ((Below.heap_setCell _ _ _ _ (by simp only;omega)).trans HY2.out) (.string ⟨#[]⟩) (.int .u8 0) (.string ⟨#[]⟩) (.slice none 0 0) (.string ⟨#[]⟩) (.int .i64 2))
        have HB:=Lib.hid (HBL.out (w5.setCell ⟨w1.heap.size,4,none⟩ (.string ⟨l.toArray⟩)) (hbY.setCell (p:=⟨w1.heap.size,4,none⟩) (by simp only;omega) (.string ⟨l.toArray⟩)) (.string ⟨#[]⟩) (.int .u8 0) (.string ⟨#[]⟩) (.slice none 0 0) (.string ⟨#[]⟩) (.int .i64 2))
        go_wp2_with fail
        refine bodyPost_ret (results_cell_row rfl _ _ w.heap.size 86 #[.string ⟨#[]⟩,.int .u8 0,.string ⟨#[]⟩,.slice none 0 0,.string ⟨#[]⟩,.int .i64 2] (0,0) _ rfl HH.out Tryz.underlying86 rfl (by kernel_rfl)) rfl ?_
        exact ⟨rfl,HB.out⟩
      ·rw [if_neg k1] at hR
       have k1':(k != 1)=true:=by rw [bne_iff_ne];exact k1
       clear k1
       obtain ⟨W4,hW4⟩:∃ W4,W4=w5.setCell ⟨w1.heap.size,4,none⟩ (.string ⟨l.toArray⟩):=⟨_,rfl⟩
       have HV2:Hid (W4.heap[w.heap.size]? = some (.cells #[.string ⟨#[]⟩,.int .u8 0,.string ⟨#[]⟩,.slice none 0 0,.string ⟨#[]⟩,.int .i64 0] 86 (0,0))):=Lib.hid (by rw [hW4];exact (Below.heap_setCell _ _ _ _ (by simp only;omega)).trans HY2.out)
       have HV6:Hid (W4.heap[w1.heap.size]? = some (.cells #[.string ⟨#[]⟩,.int .u8 k,.string ⟨#[]⟩,.slice none 0 0,.string ⟨l.toArray⟩,.int .i64 0] 86 (0,0))):=Lib.hid (by rw [hW4];exact blk_put (cs:=#[.string ⟨#[]⟩,.int .u8 k,.string ⟨#[]⟩,.slice none 0 0,.string ⟨#[]⟩,.int .i64 0]) HY6.out 4 _ rfl)
       have hbV:Below w.heap.size w W4:=by rw [hW4];exact hbY.setCell (p:=⟨w1.heap.size,4,none⟩) (by simp only;omega) _
       have hxp:(0:Int)≤(n:Int):=hg1
       generalize hx1:rest.extract n rest.size=x1 at *
       have HPX:=Lib.hid (fun W=>Tryz.strings_HasPrefix x1 ⟨#[32]⟩ W)
       rcases dataR_case k l x1 with ⟨hp,hd⟩ | ⟨hp,hsz1,hd⟩
       ·rw [hd] at hR
        rw [hp] at HPX
        subst hR
        clear hd hp
        go_wp2_with fail
        rw [← hW4]
        refine (HPX.out _).mono ?_
        rintro e w6 ⟨rfl,hw6⟩
        rw [hw6]
        clear q00 q01 q02 q03 q04 q05 d0 d1 d2 d3 d4 d5 p02 p04 e0 e1 e2 e3 e4 e5
        have q0c:∀ j,W4.frozen? ⟨w.heap.size,j,none⟩=false:=fun j=>by simp [World.frozen?,HV2.out]
        have q00:=q0c 0
        have q01:=q0c 1
        have q02:=q0c 2
        have q03:=q0c 3
        have q04:=q0c 4
        have q05:=q0c 5
        obtain ⟨d0,d1,d2,d3,d4,d5⟩:=c6A HV2.out
        have p0c:∀ j,W4.frozen? ⟨w1.heap.size,j,none⟩=false:=fun j=>by simp [World.frozen?,HV6.out]
        have p02:=p0c 2
        have p04:=p0c 4
        obtain ⟨e0,e1,e2,e3,e4,e5⟩:=c6A HV6.out
        clear q0c p0c
        clear hw6 hW4
        have HH:=Lib.hid (HST.out W4 HV2.out (.string ⟨#[]⟩) (.int .u8 0) (.string ⟨#[]⟩) (.slice none 0 0) (.string ⟨#[]⟩) (.int .i64 2))
        have HB:=Lib.hid (HBL.out W4 hbV (.string ⟨#[]⟩) (.int .u8 0) (.string ⟨#[]⟩) (.slice none 0 0) (.string ⟨#[]⟩) (.int .i64 2))
        go_wp2_with fail
        refine bodyPost_ret (results_cell_row rfl _ _ w.heap.size 86 #[.string ⟨#[]⟩,.int .u8 0,.string ⟨#[]⟩,.slice none 0 0,.string ⟨#[]⟩,.int .i64 2] (0,0) _ rfl HH.out Tryz.underlying86 rfl (by kernel_rfl)) rfl ?_
        exact ⟨rfl,HB.out⟩
       ·rw [hp] at HPX
        have HUR:=Lib.hid (HUN.out (x1.extract 1 x1.size) W4 (by rw [ByteArray.size_extract];omega) (Tab_b HG.out hbV))
        have hp1:(1:Int)≤(x1.size:Int):=by omega
        clear hp
        go_wp2_with fail
        rw [← hW4]
        refine (HPX.out _).mono ?_
        rintro e w6 ⟨rfl,hw6⟩
        rw [hw6]
        clear hw6 hW4
        go_wp2_with fail
        refine HUR.out.mono ?_
        have hvlt:=(Array.getElem?_eq_some_iff.1 HV6.out).1
        have hvlt2:=(Array.getElem?_eq_some_iff.1 HV2.out).1
        rintro e w7 ⟨⟨l2,m,huq2,rfl⟩ | ⟨huq2,m2,rfl⟩,hb7⟩
        ·have hs7:=hb7.size
         have HZ2:=Lib.hid ((hb7.block w.heap.size hvlt2).trans HV2.out)
         have HZ6:=Lib.hid ((hb7.block w1.heap.size hvlt).trans HV6.out)
         have hbZ:=bstep hbV hbV.size hb7
         have hm:=unq_bound huq2
         rw [ByteArray.size_extract] at hm
         clear q00 q01 q02 q03 q04 q05 d0 d1 d2 d3 d4 d5 p02 p04 e0 e1 e2 e3 e4 e5
         have q0d:∀ j,w7.frozen? ⟨w.heap.size,j,none⟩=false:=fun j=>by simp [World.frozen?,HZ2.out]
         have q00:=q0d 0
         have q01:=q0d 1
         have q02:=q0d 2
         have q03:=q0d 3
         have q04:=q0d 4
         have q05:=q0d 5
         obtain ⟨d0,d1,d2,d3,d4,d5⟩:=c6A HZ2.out
         have p0d:∀ j,w7.frozen? ⟨w1.heap.size,j,none⟩=false:=fun j=>by simp [World.frozen?,HZ6.out]
         have p02:=p0d 2
         have p04:=p0d 4
         obtain ⟨e0,e1,e2,e3,e4,e5⟩:=c6A HZ6.out
         clear q0d p0d
         rw [huq2] at hd
         simp only at hd
         rw [hd] at hR
         obtain ⟨m1,hm1⟩:∃ m1,m1=1+m:=⟨_,rfl⟩
         have hmi:(1:Int)+(m:Int)=(m1:Int):=by omega
         have hg3:(m1:Int)≤(x1.size:Int):=by omega
         rw [← hm1] at hR
         have hEX:=HXX.out (x1.extract m1 x1.size)
         clear hd huq2 hm1
         by_cases hE:(x1.extract m1 x1.size).data.toList=[]
         ·rw [if_pos hE] at hR
          rw [decide_eq_true hE] at hEX
          subst hR
          clear hE
          have HH:=Lib.hid (HST.out (w7.setCell ⟨w1.heap.size,2,none⟩ (.string ⟨l2.toArray⟩)) ((Below.heap_setCell _ _ _ _ (by simp only;omega)).trans HZ2.out) (.string ⟨#[]⟩) (.int .u8 k) (.string ⟨l2.toArray⟩) (.slice none 0 0) (.string ⟨l.toArray⟩) (.int .i64 0))
          have HB:=Lib.hid (HBL.out (w7.setCell ⟨w1.heap.size,2,none⟩ (.string ⟨l2.toArray⟩)) (hbZ.setCell (p:=⟨w1.heap.size,2,none⟩) (by simp only;omega) (.string ⟨l2.toArray⟩)) (.string ⟨#[]⟩) (.int .u8 k) (.string ⟨l2.toArray⟩) (.slice none 0 0) (.string ⟨l.toArray⟩) (.int .i64 0))
          go_wp2_with fail
          refine bodyPost_ret (results_cell_row rfl _ _ w.heap.size 86 #[.string ⟨#[]⟩,.int .u8 k,.string ⟨l2.toArray⟩,.slice none 0 0,.string ⟨l.toArray⟩,.int .i64 0] (0,0) _ rfl HH.out Tryz.underlying86 rfl (by kernel_rfl)) rfl ?_
          exact ⟨rfl,HB.out⟩
         ·rw [if_neg hE] at hR
          rw [decide_eq_false hE] at hEX
          subst hR
          clear hE
          have HH:=Lib.hid (HST.out (w7.setCell ⟨w1.heap.size,2,none⟩ (.string ⟨l2.toArray⟩)) ((Below.heap_setCell _ _ _ _ (by simp only;omega)).trans HZ2.out) (.string ⟨#[]⟩) (.int .u8 0) (.string ⟨#[]⟩) (.slice none 0 0) (.string ⟨#[]⟩) (.int .i64 2))
          have HB:=Lib.hid (HBL.out (w7.setCell ⟨w1.heap.size,2,none⟩ (.string ⟨l2.toArray⟩)) (hbZ.setCell (p:=⟨w1.heap.size,2,none⟩) (by simp only;omega) (.string ⟨l2.toArray⟩)) (.string ⟨#[]⟩) (.int .u8 0) (.string ⟨#[]⟩) (.slice none 0 0) (.string ⟨#[]⟩) (.int .i64 2))
          go_wp2_with fail
          refine bodyPost_ret (results_cell_row rfl _ _ w.heap.size 86 #[.string ⟨#[]⟩,.int .u8 0,.string ⟨#[]⟩,.slice none 0 0,.string ⟨#[]⟩,.int .i64 2] (0,0) _ rfl HH.out Tryz.underlying86 rfl (by kernel_rfl)) rfl ?_
          exact ⟨rfl,HB.out⟩
        ·have hs7:=hb7.size
         have HZ2:=Lib.hid ((hb7.block w.heap.size hvlt2).trans HV2.out)
         have HZ6:=Lib.hid ((hb7.block w1.heap.size hvlt).trans HV6.out)
         have hbZ:=bstep hbV hbV.size hb7
         clear q00 q01 q02 q03 q04 q05 d0 d1 d2 d3 d4 d5 p02 p04 e0 e1 e2 e3 e4 e5
         have q0d:∀ j,w7.frozen? ⟨w.heap.size,j,none⟩=false:=fun j=>by simp [World.frozen?,HZ2.out]
         have q00:=q0d 0
         have q01:=q0d 1
         have q02:=q0d 2
         have q03:=q0d 3
         have q04:=q0d 4
         have q05:=q0d 5
         obtain ⟨d0,d1,d2,d3,d4,d5⟩:=c6A HZ2.out
         have p0d:∀ j,w7.frozen? ⟨w1.heap.size,j,none⟩=false:=fun j=>by simp [World.frozen?,HZ6.out]
         have p02:=p0d 2
         have p04:=p0d 4
         obtain ⟨e0,e1,e2,e3,e4,e5⟩:=c6A HZ6.out
         clear q0d p0d
         rw [huq2] at hd
         simp only at hd
         rw [hd] at hR
         subst hR
         clear hd huq2
         have HH:=Lib.hid (HST.out w7 HZ2.out (.string ⟨#[]⟩) (.int .u8 0) (.string ⟨#[]⟩) (.slice none 0 0) (.string ⟨#[]⟩) (.int .i64 2))
         have HB:=Lib.hid (HBL.out w7 hbZ (.string ⟨#[]⟩) (.int .u8 0) (.string ⟨#[]⟩) (.slice none 0 0) (.string ⟨#[]⟩) (.int .i64 2))
         go_wp2_with fail
         refine bodyPost_ret (results_cell_row rfl _ _ w.heap.size 86 #[.string ⟨#[]⟩,.int .u8 0,.string ⟨#[]⟩,.slice none 0 0,.string ⟨#[]⟩,.int .i64 2] (0,0) _ rfl HH.out Tryz.underlying86 rfl (by kernel_rfl)) rfl ?_
         exact ⟨rfl,HB.out⟩
     ·have hR:=HRR.out
      rw [restR,show mkS rest.data.toList=rest by apply ByteArray.ext;simp [mkS],huq] at hR
      simp only at hR
      subst hR
      have hs5:=hb5.size
      have HY2:=Lib.hid ((hb5.block w.heap.size (by have:=hbX.size;have:=(Array.getElem?_eq_some_iff.1 HX2.out).1;omega)).trans HX2.out)
      have HY6:=Lib.hid ((hb5.block w1.heap.size hnX).trans HX6.out)
      have hbY:=bstep hbX hbX.size hb5
      clear q00 q01 q02 q03 q04 q05 d0 d1 d2 d3 d4 d5 e1
      have q0b:∀ j,w5.frozen? ⟨w.heap.size,j,none⟩=false:=fun j=>by simp [World.frozen?,HY2.out]
      have q00:=q0b 0
      have q01:=q0b 1
      have q02:=q0b 2
      have q03:=q0b 3
      have q04:=q0b 4
      have q05:=q0b 5
      obtain ⟨d0,d1,d2,d3,d4,d5⟩:=c6A HY2.out
      have p0b:∀ j,w5.frozen? ⟨w1.heap.size,j,none⟩=false:=fun j=>by simp [World.frozen?,HY6.out]
      have p02:=p0b 2
      have p04:=p0b 4
      obtain ⟨e0,e1,e2,e3,e4,e5⟩:=c6A HY6.out
      clear q0b p0b
      have HH:=Lib.hid (HST.out w5 HY2.out (.string ⟨#[]⟩) (.int .u8 0) (.string ⟨#[]⟩) (.slice none 0 0) (.string ⟨#[]⟩) (.int .i64 2))
      have HB:=Lib.hid (HBL.out w5 hbY (.string ⟨#[]⟩) (.int .u8 0) (.string ⟨#[]⟩) (.slice none 0 0) (.string ⟨#[]⟩) (.int .i64 2))
      go_wp2_with fail
      refine bodyPost_ret (results_cell_row rfl _ _ w.heap.size 86 #[.string ⟨#[]⟩,.int .u8 0,.string ⟨#[]⟩,.slice none 0 0,.string ⟨#[]⟩,.int .i64 2] (0,0) _ rfl HH.out Tryz.underlying86 rfl (by kernel_rfl)) rfl ?_
      exact ⟨rfl,HB.out⟩
  ·obtain ⟨n,wv,b,rfl,hpush⟩:∃ (n:Int) (wv:ByteArray) (b:Nat),e={key:=.int .u8 n,val:=.string wv,born:=b}∧kS (seen.push b) word=if (wv.toList == word.toList)=true then n else kS seen word:=by
    rcases word_cases (mem_left he).1 with rfl | rfl | rfl
    ·exact ⟨1,wDir,0,rfl,kS_push0 seen word⟩
    ·exact ⟨2,wText,1,rfl,kS_push1 seen word⟩
    ·exact ⟨3,wLink,2,rfl,kS_push2 seen word⟩
   simp only at hrun
   have hs2:u2.heap.size=w3.heap.size:=by rw [hal2.1];exact HUS.out
   have HS2:=Lib.hid hs2
   have HM2:Hid (u2.heap[W6.heap.size]? = some (.map wordE 3)):=Lib.hid (by rw [hal2.1];exact HUM.out)
   have HV2:Hid (u2.heap[w.heap.size]? = some (.cells #[.string ⟨#[]⟩,.int .u8 0,.string ⟨#[]⟩,.slice none 0 0,.string ⟨#[]⟩,.int .i64 0] 86 (0,0))):=Lib.hid (by rw [hal2.1];exact HU2.out)
   have HV6:Hid (u2.heap[w1.heap.size]? = some (.cells #[.string ⟨#[]⟩,.int .u8 k,.string ⟨#[]⟩,.slice none 0 0,.string ⟨#[]⟩,.int .i64 0] 86 (0,0))):=Lib.hid (by rw [hal2.1];exact HU6.out)
   have htp:u2.tape=u.tape:=tape_next (P:=Tryz.prog) w3.heap.size u u2 (.mapIter (some W6.heap.size) 3 seen 3) (.mapIter (some W6.heap.size) 3 (seen.push b) 3) _ hrun
   have hbu2:Below w.heap.size w u2:=⟨hal2.2.1.trans hbu.os,htp.trans hbu.tape,hal2.2.2.trans hbu.output,by rw [hal2.1];exact hbu.size,fun j hj=>by rw [hal2.1];exact hbu.block j hj⟩
   have hnx:∀ ty,(Instr.next (.pointer (some ⟨w3.heap.size,0,none⟩)) false ty).run Tryz.prog (u.alloc (.mapIter (some W6.heap.size) 3 seen 3))=_:=fun _=>hrun
   have hen:=run_entry_map (P:=Tryz.prog) u2 W6.heap.size 3 seen wordE 3 _ HM2.out (mem_left he).1 (by decide)
   rw [hs2] at hen
   simp only at hen
   have hgn:∀ seen',(u2.alloc (.mapIter (some W6.heap.size) 3 seen' 3)).heap[w1.heap.size]? = some (.cells #[.string ⟨#[]⟩,.int .u8 k,.string ⟨#[]⟩,.slice none 0 0,.string ⟨#[]⟩,.int .i64 0] 86 (0,0)):=fun seen'=>(Below.heap_alloc _ _ _ (by rw [hal2.1];exact n6lt)).trans HV6.out
   have HME:=Lib.hid (show (leftOf wordE (seen.push b)).size<(leftOf wordE seen).size from left_shrinks wordE seen {key:=.int .u8 n,val:=.string wv,born:=b} he)
   have c6:=cell_of (j:=1) (hgn (seen.push b)) rfl
   have f6:(u2.alloc (.mapIter (some W6.heap.size) 3 (seen.push b) 3)).frozen? ⟨w1.heap.size,1,none⟩=false:=by simp [World.frozen?,hgn]
   have n6lt2:w1.heap.size<u2.heap.size:=by rw [hal2.1];exact n6lt
   have HI1:=Lib.hid (show (u.alloc (.mapIter (some W6.heap.size) 3 seen 3)).iterSeen w3.heap.size=seen by rw [← HUS.out];exact World.iterSeen_alloc _ _ _ _ _)
   have HI2:=Lib.hid (show ∀ U:World,U.heap.size=w3.heap.size→(U.alloc (.mapIter (some W6.heap.size) 3 (seen.push b) 3)).iterSeen w3.heap.size=seen.push b from fun U h=>by rw [← h];exact World.iterSeen_alloc _ _ _ _ _)
   have HP:=Lib.hid hpush
   clear he hpush hgn hs2 hrun
   cases hmt:(wv.toList == word.toList)
   ·rw [hmt] at HP
    simp only [Bool.false_eq_true,if_false] at HP
    go_wp2_with fail
    go_roundw
    case rel=>exact ⟨u2,seen.push b,k,rfl,HS2.out,HM2,HV2,HV6,Lib.hid (HK.out.trans HP.out.symm),hbu2⟩
    case measure=>rw [HI1.out,HI2.out _ HS2.out];exact HME.out
   ·rw [hmt] at HP
    simp only [if_true] at HP
    go_wp2_with fail
    go_roundw
    case rel=>exact ⟨u2.setCell ⟨w1.heap.size,1,none⟩ (.int .u8 n),seen.push b,n,rfl,by simp only [World.setCell,Array.size_modify];exact HS2.out,Lib.hid ((Below.heap_setCell _ _ _ _ (by simp only;omega)).trans HM2.out),Lib.hid ((Below.heap_setCell _ _ _ _ (by simp only;omega)).trans HV2.out),Lib.hid (blk_put (cs:=#[.string ⟨#[]⟩,.int .u8 k,.string ⟨#[]⟩,.slice none 0 0,.string ⟨#[]⟩,.int .i64 0]) HV6.out 1 _ rfl),Lib.hid HP.out.symm,hbu2.setCell (p:=⟨w1.heap.size,1,none⟩) (by simp only;omega) _⟩
    case measure=>rw [HI1.out,HI2.out _ (by simp only [World.setCell,Array.size_modify];exact HS2.out)];exact HME.out
end Go.Proofs.YtdnhjnlhmfajnaaGreatDoor.G
end
