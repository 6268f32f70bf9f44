import Derived.Test.YthlcjjhfkldmhaaGreatDoorVMem
import Derived.Test.YthlcjjhfkldmhaaGreatDoorTChanged
import Derived.Test.YthlcjjhfkldmhaaGreatDoorVFrame
import Derived.Test.YthlcjjhfkldmhaaGreatDoorVHd
import Derived.Test.YthlcjjhfkldmhaaGreatDoorKit
import Derived.Test.YthlcjjhfkldmhaaGreatDoorSq
import Derived.Test.YthlcjjhfkldmhaaGreatDoorVRealF
import Derived.Test.YthlcjjhfkldmhaaGreatDoorVBegins
import Derived.Test.YthlcjjhfkldmhaaGreatDoorPRef2
set_option linter.unusedVariables false
set_option linter.unusedSimpArgs false
section
namespace Go.Proofs.YthlcjjhfkldmhaaGreatDoor.G
open Go.RowKit Go.Lib Go.Proofs.YthlcjjhfkldmhaaGreatDoorW.PrintWords Go.Proofs.YthlcjjhfkldmhaaGreatDoorW.PrintLast
set_option linter.unusedVariables false
set_option linter.unusedSimpArgs false
theorem ch_all {rec:File→List ByteArray→Option (List ByteArray)} {p:List ByteArray}:∀ {l:List File} {prev:Option ByteArray},wrongL rec p prev l=none→∀ x∈l,nameB x.name.data.toList=true∧aloneB x=true∧rec x (p++[x.name])=none
 | [],prev,h,x,hx=>by cases hx
 | y :: l,prev,h,x,hx=>by
  rw [wrongL] at h
  split at h
  ·cases h
  ·rename_i hb
   split at h
   ·cases h
   ·rename_i hr
    rcases List.mem_cons.1 hx with rfl | hx
    ·have hb:=Bool.eq_false_iff.2 hb
     unfold badF at hb
     simp only [Bool.or_eq_false_iff,Bool.not_eq_false'] at hb
     exact ⟨hb.1.1.1,hb.2,hr⟩
    ·exact ch_all h x hx
theorem alone_files {x:File} (ha:aloneB x=true):x.kind=1∨x.files=[]:=by
 unfold aloneB at ha
 split at ha
 ·rename_i h;exact .inl h
 ·refine .inr ?_
  split at ha
  ·exact List.length_eq_zero_iff.1 (of_decide_eq_true ha)
  ·split at ha
   ·rw [Bool.and_eq_true] at ha
    exact List.length_eq_zero_iff.1 (of_decide_eq_true ha.1)
   ·cases ha
theorem ch_ok:∀ (n:Nat) (f:File) (p:List ByteArray),f.bulk≤n→wrongN n f p=none→∀ z∈preF p f,aloneB z.2=true∧∃ r,z.1=p++r∧∀ m∈r,nameB m.data.toList=true
 | 0,f,p,hn,_,z,_=>by have:=bulk_eq f;omega
 | n+1,f,p,hn,h,z,hz=>by
  replace h:wrongL (wrongN n) p none f.files=none:=h
  obtain ⟨x,hx,hzx⟩:=pr_mem.1 hz
  obtain ⟨h1,h2,h3⟩:=ch_all h x hx
  rcases hzx with rfl | hzx
  ·exact ⟨h2,[x.name],rfl,fun m hm=>by rw [List.mem_singleton.1 hm];exact h1⟩
  ·have hb:=bulk_child hx
   obtain ⟨h4,r,h5,h6⟩:=ch_ok n x (p++[x.name]) (by omega) h3 z hzx
   refine ⟨h4,x.name :: r,by rw [h5,List.append_assoc];rfl,fun m hm => ?_⟩
   rcases List.mem_cons.1 hm with rfl | hm
   ·exact h1
   ·exact h6 m hm
theorem ch_right {t:File} (h:rightT t=true):t.kind=1∧SortF t∧∀ z∈preF [] t,(z.2.kind=1∨z.2.files=[])∧(∀ m∈z.1,nameB m.data.toList=true)∧goP t z.1=(0,some z.2)∧z.1≠[]:=by
 have hs:=right_sort h
 unfold rightT checkR at h
 split at h
 ·rename_i hk
  have hw:wrongN t.bulk t []=none:=by
   cases hw:wrongN t.bulk t [] with
   | none=>rfl
   | some b=>rw [hw] at h;simp [checkO] at h
  have ho:=ch_ok t.bulk t [] (Nat.le_refl _) hw
  refine ⟨hk.1,hs,fun z hz => ?_⟩
  obtain ⟨h1,r,h2,h3⟩:=ho z hz
  obtain ⟨m,s,h4,h5⟩:=pr_goes t.bulk t [] z (Nat.le_refl _) hs (fun y hy=>alone_files (ho y hy).1) (.inl hk.1) hz
  rw [List.nil_append] at h2 h4
  exact ⟨alone_files h1,by rw [h2];exact h3,by rw [h4];exact h5,by rw [h4];simp⟩
 ·simp at h
theorem ch_list:∀ (q:List ByteArray),(shownS q).data.toList=(q.map fun n=>47 :: n.data.toList).flatten:=by
 have h:∀ (q:List ByteArray) (s:ByteArray),(q.foldl (fun s n=>s++(⟨#[47]⟩++n)) s).data.toList=s.data.toList++(q.map fun n=>47 :: n.data.toList).flatten:=by
  intro q
  induction q with
  | nil=>intro s;simp
  | cons n q ih=>intro s;rw [List.foldl_cons,ih];simp [ByteArray.data_append]
 intro q
 unfold shownS
 rw [h]
 rfl
theorem ch_no47 {n:ByteArray} (h:nameB n.data.toList=true):(47:UInt8) ∉ n.data.toList:=by
 intro hm
 unfold nameB at h
 simp only [Bool.and_eq_true,Bool.not_eq_true',List.any_eq_false] at h
 exact h.2 47 hm (by decide)
theorem ch_cut {a b P Q:List UInt8} (ha:(47:UInt8) ∉ a) (hb:(47:UInt8) ∉ b) (hP:P=[]∨∃ r,P=47 :: r) (hQ:Q=[]∨∃ r,Q=47 :: r) (h:a++P=b++Q):a=b∧P=Q:=by
 induction a generalizing b with
 | nil =>
  cases b with
  | nil=>exact ⟨rfl,h⟩
  | cons y b =>
   rcases hP with rfl | ⟨r,rfl⟩
   ·simp at h
   ·simp only [List.nil_append,List.cons_append,List.cons.injEq] at h
    exact absurd (by rw [← h.1];exact List.mem_cons_self) hb
 | cons x a ih =>
  cases b with
  | nil =>
   rcases hQ with rfl | ⟨r,rfl⟩
   ·simp at h
   ·simp only [List.nil_append,List.cons_append,List.cons.injEq] at h
    exact absurd (by rw [h.1];exact List.mem_cons_self) ha
  | cons y b =>
   simp only [List.cons_append,List.cons.injEq] at h
   obtain ⟨h1,h2⟩:=ih (fun h=>ha (List.mem_cons_of_mem _ h)) (fun h=>hb (List.mem_cons_of_mem _ h)) h.2
   exact ⟨by rw [h.1,h1],h2⟩
theorem ch_flat:∀ (p q:List ByteArray),(∀ n∈p,(47:UInt8) ∉ n.data.toList)→(∀ n∈q,(47:UInt8) ∉ n.data.toList)→(p.map fun n=>47 :: n.data.toList).flatten=(q.map fun n=>47 :: n.data.toList).flatten→p=q
 | [],[],_,_,_=>rfl
 | [],y :: q,_,_,h=>by simp at h
 | x :: p,[],_,_,h=>by simp at h
 | x :: p,y :: q,hp,hq,h=>by
  simp only [List.map_cons,List.flatten_cons,List.cons_append,List.cons.injEq,true_and] at h
  have hh:∀ l:List ByteArray,(l.map fun n=>47 :: n.data.toList).flatten=[]∨∃ r,(l.map fun n=>(47:UInt8) :: n.data.toList).flatten=47 :: r:=fun l=>by
   cases l with
   | nil=>exact .inl rfl
   | cons z l=>exact .inr ⟨_,rfl⟩
  obtain ⟨h1,h2⟩:=ch_cut (hp x List.mem_cons_self) (hq y List.mem_cons_self) (hh p) (hh q) h
  have hx:x=y:=ByteArray.ext (Array.toList_inj.1 h1)
  rw [hx,ch_flat p q (fun n h=>hp n (List.mem_cons_of_mem _ h)) (fun n h=>hq n (List.mem_cons_of_mem _ h)) h2]
theorem shown_inj {p q:List ByteArray} (hp:∀ m∈p,nameB m.data.toList=true) (hq:∀ m∈q,nameB m.data.toList=true) (h:shownS p=shownS q):p=q:=by
 refine ch_flat p q (fun n hn=>ch_no47 (hp n hn)) (fun n hn=>ch_no47 (hq n hn)) ?_
 rw [← ch_list,← ch_list,h]
theorem lookQ_cons (y:ByteArray×(Int×ByteArray)) (q:SeenQ) (s:ByteArray):lookQ (y :: q) s=if y.1=s then some y.2 else lookQ q s:=by
 unfold lookQ
 rw [List.find?_cons]
 by_cases h:y.1=s
 ·rw [if_pos h,show decide (y.1=s)=true from decide_eq_true h];rfl
 ·rw [if_neg h,show decide (y.1=s)=false from decide_eq_false h]
theorem lookQ_map1 {s s':ByteArray} (x:Int×ByteArray) (h:s'≠s):∀ q:SeenQ,lookQ (q.map fun y=>if y.1=s then (s,x) else y) s'=lookQ q s'
 | []=>rfl
 | y :: q=>by
  rw [List.map_cons,lookQ_cons,lookQ_cons,lookQ_map1 x h q]
  by_cases h1:y.1=s
  ·rw [if_pos h1]
   simp only
   rw [if_neg (Ne.symm h),if_neg fun e=>h (e.symm.trans h1)]
  ·rw [if_neg h1]
theorem lookQ_map2 (s:ByteArray) (x:Int×ByteArray):∀ q:SeenQ,(lookQ q s).isSome=true→lookQ (q.map fun y=>if y.1=s then (s,x) else y) s=some x
 | [],h=>by cases h
 | y :: q,h=>by
  rw [List.map_cons,lookQ_cons]
  rw [lookQ_cons] at h
  by_cases h1:y.1=s
  ·rw [if_pos h1]
   simp only [if_true]
  ·rw [if_neg h1,if_neg h1]
   rw [if_neg h1] at h
   exact lookQ_map2 s x q h
theorem lookQ_set (q:SeenQ) (s s':ByteArray) (x:Int×ByteArray):lookQ (setQ q s x) s'=if s'=s then some x else lookQ q s':=by
 unfold setQ
 by_cases hs:(lookQ q s).isSome=true
 ·rw [if_pos hs]
  by_cases h2:s'=s
  ·rw [if_pos h2,h2];exact lookQ_map2 s x q hs
  ·rw [if_neg h2];exact lookQ_map1 x h2 q
 ·rw [if_neg hs]
  have go:∀ q:SeenQ,(lookQ q s).isSome≠true→lookQ (q++[(s,x)]) s'=if s'=s then some x else lookQ q s':=by
   intro q
   induction q with
   | nil =>
    intro _
    rw [List.nil_append,lookQ_cons]
    by_cases h2:s'=s
    ·rw [if_pos h2,if_pos h2.symm]
    ·rw [if_neg h2,if_neg fun e=>h2 e.symm]
   | cons y q ih =>
    intro h
    rw [lookQ_cons] at h
    by_cases h1:y.1=s
    ·rw [if_pos h1] at h;exact absurd rfl h
    ·rw [if_neg h1] at h
     rw [List.cons_append,lookQ_cons,lookQ_cons,ih h]
     by_cases h2:s'=s
     ·rw [if_pos h2,if_pos h2,if_neg fun e=>h1 (e.trans h2)]
     ·rw [if_neg h2,if_neg h2]
  exact go q hs
theorem lookQ_del (q:SeenQ) (s s':ByteArray):lookQ (delQ q s) s'=if s'=s then none else lookQ q s':=by
 unfold lookQ delQ
 induction q with
 | nil=>simp
 | cons y q ih =>
  by_cases h1:y.1=s
  ·rw [List.filter_cons_of_neg (by simpa using h1),ih]
   by_cases h2:s'=s
   ·rw [if_pos h2,if_pos h2]
   ·rw [if_neg h2,if_neg h2,List.find?_cons,show decide (y.1=s')=false from decide_eq_false fun e=>h2 (e.symm.trans h1)]
  ·rw [List.filter_cons_of_pos (by simpa using h1),List.find?_cons,List.find?_cons]
   by_cases h3:y.1=s'
   ·have h2:¬ s'=s:=fun e=>h1 (h3.trans e)
    simp [h3,h2]
   ·rw [show decide (y.1=s')=false from decide_eq_false h3]
    exact ih
theorem seenOf_look (l:List (List ByteArray×File)) (s:ByteArray) (x:Int×ByteArray) (hd:∀ y∈l,∀ z∈l,shownS y.1=shownS z.1→y=z):lookQ (seenOf l) s=some x↔∃ y∈l,shownS y.1=s∧(y.2.kind,y.2.data)=x:=by
 have go:∀ (l:List (List ByteArray×File)) (q:SeenQ),lookQ (l.foldl (fun q y=>setQ q (shownS y.1) (y.2.kind,y.2.data)) q) s=match l.reverse.find? (fun y=>decide (shownS y.1=s)) with | some y=>some (y.2.kind,y.2.data) | none=>lookQ q s:=by
  intro l
  induction l with
  | nil=>intro q;rfl
  | cons y l ih =>
   intro q
   rw [List.foldl_cons,ih,List.reverse_cons,List.find?_append]
   cases hf:l.reverse.find? (fun y=>decide (shownS y.1=s)) with
   | some z=>simp
   | none =>
    simp only [Option.none_or,List.find?_cons,List.find?_nil]
    rw [lookQ_set]
    by_cases h:shownS y.1=s
    ·rw [if_pos h.symm];simp [h]
    ·rw [if_neg fun e=>h e.symm];simp [h]
 unfold seenOf
 rw [go l []]
 cases hf:l.reverse.find? (fun y=>decide (shownS y.1=s)) with
 | some z =>
  have hz:z∈l:=List.mem_reverse.1 (List.mem_of_find?_eq_some hf)
  have hzs:shownS z.1=s:=by simpa using List.find?_some hf
  constructor
  ·intro h
   injection h with h
   exact ⟨z,hz,hzs,h⟩
  ·rintro ⟨y,hy,hys,rfl⟩
   rw [hd y hy z hz (hys.trans hzs.symm)]
 | none =>
  constructor
  ·intro h;cases h
  ·rintro ⟨y,hy,hys,rfl⟩
   have:=List.find?_eq_none.1 hf y (List.mem_reverse.2 hy)
   exact absurd hys (by simpa using this)
theorem chgB_look (q:SeenQ) (l:List (List ByteArray×File)) (s:ByteArray):lookQ (chgB q l).1 s=if ∃ y∈l,shownS y.1=s then none else lookQ q s:=by
 have go:∀ (l:List (List ByteArray×File)) (st:SeenQ×List (List ByteArray)),lookQ (l.foldl chgStep st).1 s=if ∃ y∈l,shownS y.1=s then none else lookQ st.1 s:=by
  intro l
  induction l with
  | nil=>intro st;simp
  | cons y l ih =>
   intro st
   rw [List.foldl_cons,ih]
   by_cases h1:∃ z∈l,shownS z.1=s
   ·rw [if_pos h1,if_pos (by obtain ⟨z,hz,h⟩:=h1;exact ⟨z,List.mem_cons_of_mem _ hz,h⟩)]
   ·rw [if_neg h1]
    simp only [chgStep]
    rw [lookQ_del]
    by_cases h2:s=shownS y.1
    ·rw [if_pos h2,if_pos ⟨y,List.mem_cons_self,h2.symm⟩]
    ·rw [if_neg h2,if_neg]
     rintro ⟨z,hz,h⟩
     rcases List.mem_cons.1 hz with rfl | hz
     ·exact h2 h.symm
     ·exact h1 ⟨z,hz,h⟩
 exact go l (q,[])
theorem chgB_out (q:SeenQ):∀ (l:List (List ByteArray×File)),l.Pairwise (fun a b=>shownS a.1≠shownS b.1)→∀ p,p∈(chgB q l).2↔∃ y∈l,y.1=p∧lookQ q (shownS y.1)≠some (y.2.kind,y.2.data):=by
 have go:∀ (l:List (List ByteArray×File)) (st:SeenQ×List (List ByteArray)),l.Pairwise (fun a b=>shownS a.1≠shownS b.1)→∀ p,p∈(l.foldl chgStep st).2↔p∈st.2∨∃ y∈l,y.1=p∧lookQ st.1 (shownS y.1)≠some (y.2.kind,y.2.data):=by
  intro l
  induction l with
  | nil=>intro st _ p;simp
  | cons y l ih =>
   intro st hp p
   rw [List.pairwise_cons] at hp
   rw [List.foldl_cons,ih _ hp.2]
   have hsame:∀ z∈l,lookQ (chgStep st y).1 (shownS z.1)=lookQ st.1 (shownS z.1):=fun z hz=>by
    simp only [chgStep]
    rw [lookQ_del,if_neg fun e=>hp.1 z hz e.symm]
   constructor
   ·rintro (h | ⟨z,hz,h1,h2⟩)
    ·simp only [chgStep] at h
     split at h
     ·exact .inl h
     ·rename_i hne
      rcases List.mem_append.1 h with h | h
      ·exact .inl h
      ·exact .inr ⟨y,List.mem_cons_self,(List.mem_singleton.1 h).symm,hne⟩
    ·rw [hsame z hz] at h2
     exact .inr ⟨z,List.mem_cons_of_mem _ hz,h1,h2⟩
   ·rintro (h | ⟨z,hz,h1,h2⟩)
    ·refine .inl ?_
     simp only [chgStep]
     split
     ·exact h
     ·exact List.mem_append_left _ h
    ·rcases List.mem_cons.1 hz with rfl | hz
     ·refine .inl ?_
      simp only [chgStep]
      rw [if_neg h2]
      exact List.mem_append_right _ (by rw [h1];exact List.mem_singleton.2 rfl)
     ·exact .inr ⟨z,hz,h1,by rw [hsame z hz];exact h2⟩
 intro l hl p
 have:=go l (q,[]) hl p
 simpa [chgB] using this
theorem chgR_iff (q:SeenQ) (o:List (List ByteArray)) (l:List (List ByteArray×File)) (p:List ByteArray):p∈chgR q o l↔p∈o∨∃ y∈l,y.1=p∧(lookQ q (shownS y.1)).isSome=true:=by
 refine ⟨chgR_mem q o l p,?_⟩
 unfold chgR
 induction l generalizing o with
 | nil=>rintro (h | ⟨y,hy,_⟩);exact h;cases hy
 | cons y l ih =>
  intro h
  rw [List.foldl_cons]
  refine ih _ ?_
  rcases h with h | ⟨z,hz,h1,h2⟩
  ·refine .inl ?_
   split
   ·exact List.mem_append_left _ h
   ·exact h
  ·rcases List.mem_cons.1 hz with rfl | hz
   ·exact .inl (by rw [if_pos h2];exact List.mem_append_right _ (by rw [h1];exact List.mem_singleton.2 rfl))
   ·exact .inr ⟨z,hz,h1,h2⟩
theorem pr_apart {t:File} (h:rightT t=true):(∀ y∈preF [] t,∀ z∈preF [] t,shownS y.1=shownS z.1→y=z)∧(preF [] t).Pairwise (fun a b=>shownS a.1≠shownS b.1):=by
 obtain ⟨_,hs,hz⟩:=ch_right h
 refine ⟨fun y hy z hz' e => ?_,?_⟩
 ·have h1:=shown_inj (hz y hy).2.1 (hz z hz').2.1 e
  have h2:=(hz y hy).2.2.1
  rw [h1,(hz z hz').2.2.1] at h2
  injection h2 with _ h2
  injection h2 with h2
  exact Prod.ext h1 h2.symm
 ·have hp:=(pr_sorted t.bulk t [] (Nat.le_refl _) hs).1
  refine hp.imp_of_mem fun {a b} ha hb hlt e => ?_
  rw [shown_inj (hz a ha).2.1 (hz b hb).2.1 e,cmp_self] at hlt
  omega
theorem chg_iff {t u:File} (ht:rightT t=true) (hu:rightT u=true) (p:List ByteArray):p∈chgL t u↔lookK t p≠lookK u p:=by
 obtain ⟨hkt,hst,hzt⟩:=ch_right ht
 obtain ⟨hku,hsu,hzu⟩:=ch_right hu
 obtain ⟨hdt,hpt⟩:=pr_apart ht
 obtain ⟨hdu,hpu⟩:=pr_apart hu
 have inT:∀ {r y},goP t r=(0,some y)→r≠[]→(r,y)∈preF [] t:=fun {r y} h h0=>by
  cases r with
  | nil=>exact absurd rfl h0
  | cons m s=>exact go_pr s m t y [] 0 hst h
 have inU:∀ {r y},goP u r=(0,some y)→r≠[]→(r,y)∈preF [] u:=fun {r y} h h0=>by
  cases r with
  | nil=>exact absurd rfl h0
  | cons m s=>exact go_pr s m u y [] 0 hsu h
 unfold chgL
 rw [chgR_iff,chgB_out _ _ hpu]
 constructor
 ·rintro (⟨y,hy,rfl,h⟩ | ⟨y,hy,rfl,h⟩) e
  ·rw [look_go (hzu y hy).2.2.1] at e
   obtain ⟨z,hz,hzx⟩:=look_some e
   refine h ((seenOf_look _ _ _ hdt).2 ⟨(y.1,z),inT hz (hzu y hy).2.2.2,rfl,hzx.symm⟩)
  ·rw [chgB_look] at h
   split at h
   ·cases h
   ·rename_i hno
    rw [look_go (hzt y hy).2.2.1] at e
    obtain ⟨z,hz,hzx⟩:=look_some e.symm
    exact hno ⟨(y.1,z),inU hz (hzt y hy).2.2.2,rfl⟩
 ·intro hne
  have h0:p≠[]:=by
   rintro rfl
   refine hne ?_
   rw [look_go (k:=0) (y:=t) (by rw [goP]),look_go (k:=0) (y:=u) (by rw [goP]),hkt,hku]
   have hd:∀ {f:File},rightT f=true→f.data=⟨#[]⟩:=fun {f} h=>by
    unfold rightT checkR at h
    split at h
    ·rename_i hk
     have h1:=hk.2.2
     rw [List.isEmpty_iff,Lib.toList_data] at h1
     exact ByteArray.ext (Array.toList_inj.1 h1)
    ·simp at h
   rw [hd ht,hd hu]
  cases hlu:lookK u p with
  | some x =>
   obtain ⟨y,hy,hyx⟩:=look_some hlu
   refine .inl ⟨(p,y),inU hy h0,rfl,fun e=>hne ?_⟩
   obtain ⟨z,hz,hzs,hzx⟩:=(seenOf_look _ _ _ hdt).1 e
   have hzp:z.1=p:=shown_inj (hzt z hz).2.1 (hzu _ (inU hy h0)).2.1 hzs
   rw [hlu,hyx,← hzp,look_go (hzt z hz).2.2.1,hzx]
  | none =>
   cases hlt:lookK t p with
   | none=>exact absurd (hlt.trans hlu.symm) hne
   | some x =>
    obtain ⟨y,hy,hyx⟩:=look_some hlt
    refine .inr ⟨(p,y),inT hy h0,rfl,?_⟩
    rw [chgB_look,if_neg]
    ·rw [(seenOf_look _ _ (y.kind,y.data) hdt).2 ⟨(p,y),inT hy h0,rfl,rfl⟩]
     rfl
    ·rintro ⟨z,hz,hzs⟩
     have hzp:z.1=p:=shown_inj (hzu z hz).2.1 (hzt _ (inT hy h0)).2.1 hzs
     rw [← hzp,look_go (hzu z hz).2.2.1] at hlu
     cases hlu
end Go.Proofs.YthlcjjhfkldmhaaGreatDoor.G
end
section
section
namespace Go.Proofs.YthlcjjhfkldmhaaGreatDoor.G
open Go.RowKit Go.Lib Go.Proofs.YthlcjjhfkldmhaaGreatDoorW.PrintWords Go.Proofs.YthlcjjhfkldmhaaGreatDoorW.PrintLast
set_option linter.unusedVariables false
def zeroStep:Step:=⟨0,[],[],⟨#[]⟩⟩
theorem step_at {w W:World} {A:Option Addr} {l:List Step} (h:StepK.C w A l.length l) (hb:Below w.heap.size w W) (k:Nat) (hk:k<l.length) :
  ∃ ad A' c' B' d',A=some ad∧W.cell? (ad.add (k * 4))=some (.int .u8 l[k].kind)∧W.cell? ⟨(ad.add (k * 4)).block,(ad.add (k * 4)).off+1,none⟩=some (.slice A' l[k].path.length c')
   ∧ W.cell? ⟨(ad.add (k * 4)).block,(ad.add (k * 4)).off+2,none⟩=some (.slice B' l[k].dest.length d')∧W.cell? ⟨(ad.add (k * 4)).block,(ad.add (k * 4)).off+3,none⟩=some (.string l[k].data)
   ∧ l[k].path.length≤c'∧Kd.F Kd.string W (fun j=>j<w.heap.size) A' l[k].path.length l[k].path∧l[k].dest.length≤d'∧Kd.F Kd.string W (fun j=>j<w.heap.size) B' l[k].dest.length l[k].dest:=by
 obtain ⟨ad,c,e,_,hK,hc0⟩:=Kd.C_get h zeroStep (k:Int) (by omega) (by omega)
 rw [Int.toNat_natCast] at hc0 hK
 have hg:l.getD k zeroStep=l[k]:=by simp [List.getD,hk]
 rw [hg] at hK
 have hc:∀ j u,c[j]? = some u→W.cell? (ad.add (k * 4+j))=some u:=fun j u hu=>by
  have h1:w.cell? (ad.add (k * 4+j))=some u:=hc0 j u hu
  exact (hb.cell (World.block_lt_of_cell? w _ h1)).trans h1
 obtain ⟨A',c',B',d',rfl,h1,h2,h3,h4⟩:=step_open hK
 have mv:∀ {X:Option Addr} {p:List ByteArray},Kd.C Kd.string w X p.length p→Kd.F Kd.string W (fun j=>j<w.heap.size) X p.length p:=fun q=>Kd.F_step (Kd.C_F Kd.heap_string q) fun j hj _=>hb.block j hj
 exact ⟨ad,A',c',B',d',e,hc 0 _ rfl,by rw [← add_field _ _ 1 (by omega)];exact hc 1 _ rfl,by rw [← add_field _ _ 2 (by omega)];exact hc 2 _ rfl,by rw [← add_field _ _ 3 (by omega)];exact hc 3 _ rfl,h1,mv h2,h3,mv h4⟩
theorem steps_len (l:List Step):5 * l.length≤stepsB l:=by
 induction l with
 | nil=>exact Nat.zero_le _
 | cons y r ih =>
  have h1:stepsB (y :: r)=stepB y+stepsB r:=by simp [stepsB]
  have h2:5≤stepB y:=by unfold stepB;omega
  simp only [List.length_cons]
  omega
theorem stepB_mem {l:List Step} {x:Step} (h:x∈l):stepB x≤stepsB l:=by
 induction l with
 | nil=>cases h
 | cons y r ih =>
  have h1:stepsB (y :: r)=stepB y+stepsB r:=by simp [stepsB]
  rcases List.mem_cons.1 h with rfl | h
  ·omega
  ·have:=ih h;omega
end Go.Proofs.YthlcjjhfkldmhaaGreatDoor.G
end
section
namespace Go.Proofs.YthlcjjhfkldmhaaGreatDoor.G
open Go.RowKit Go.Lib Go.Proofs.YthlcjjhfkldmhaaGreatDoorW.PrintWords Go.Proofs.YthlcjjhfkldmhaaGreatDoorW.PrintLast
set_option linter.unusedVariables false
set_option linter.unusedSimpArgs false
theorem path_atH {w:World} {A:Option Addr} {ll:List (List ByteArray)} (h:Kd.C PathK w A ll.length ll) (k:Nat) (hk:k<ll.length) :
  ∃ ad A' c',A=some ad∧w.cell? (ad.add k)=some (.slice A' ll[k].length c')∧ll[k].length≤c'∧Kd.C Kd.string w A' ll[k].length ll[k]:=by
 obtain ⟨ad,e,hc⟩:=h.2.2 (by omega)
 obtain ⟨cs,_,⟨A',c',rfl,h1,h2⟩,h3⟩:=hc k _ (List.getElem?_eq_getElem hk)
 have h4:=h3 0 _ rfl
 rw [show k * PathK.sz+0=k by show k * 1+0=k;omega] at h4
 exact ⟨ad,A',c',e,h4,h1,h2⟩
theorem go_lenH:∀ (r:List ByteArray) (t y:File) (k:Int),goP t r=(k,some y)→4 * r.length≤t.bulk
 | [],_,_,_,_=>Nat.zero_le _
 | m :: r,t,y,k,h=>by
  obtain ⟨x,_,hx,_,h2⟩:=goP_full h
  have h3:=go_lenH r x y k h2
  have h4:=bulk_child (List.mem_of_getElem? hx)
  simp only [List.length_cons]
  omega
theorem look_lenH {t u:File} {r:List ByteArray} (h:lookK t r≠lookK u r):r.length≤t.bulk+u.bulk:=by
 cases ht:lookK t r with
 | some z =>
  obtain ⟨y,h1,_⟩:=look_some ht
  have:=go_lenH r t y 0 h1
  omega
 | none =>
  cases hu:lookK u r with
  | some z =>
   obtain ⟨y,h1,_⟩:=look_some hu
   have:=go_lenH r u y 0 h1
   omega
  | none=>exact absurd (ht.trans hu.symm) h
theorem take_memH {l:List (List ByteArray)} {r:List ByteArray} {n:Nat} (h:n<l.length):r∈l.take (n+1)↔r∈l.take n∨r=l[n]:=by
 rw [List.take_succ_eq_append_getElem h,List.mem_append,List.mem_singleton]
theorem chgR_lenH (q:SeenQ):∀ (l:List (List ByteArray×File)) (o:List (List ByteArray)),(chgR q o l).length≤o.length+l.length
 | [],o=>by simp [chgR]
 | y :: l,o=>by
  have h:=chgR_lenH q l (if (lookQ q (shownS y.1)).isSome then o++[y.1] else o)
  show (chgR q (if (lookQ q (shownS y.1)).isSome then o++[y.1] else o) l).length≤_
  refine Nat.le_trans h ?_
  split
  ·simp only [List.length_append,List.length_cons,List.length_nil];omega
  ·simp only [List.length_cons];omega
theorem chgB_lenH:∀ (l:List (List ByteArray×File)) (st:SeenQ×List (List ByteArray)),(l.foldl chgStep st).2.length≤st.2.length+l.length
 | [],st=>by simp
 | y :: l,st=>by
  refine Nat.le_trans (chgB_lenH l (chgStep st y)) ?_
  unfold chgStep
  simp only
  split
  ·simp only [List.length_cons];omega
  ·simp only [List.length_append,List.length_cons,List.length_nil];omega
theorem chg_lenH (a b:File):(chgL a b).length≤a.bulk+b.bulk:=by
 unfold chgL
 refine Nat.le_trans (chgR_lenH _ _ _) ?_
 have h1:=chgB_lenH (preF [] b) (seenOf (preF [] a),[])
 have h2:=preF_count a []
 have h3:=preF_count b []
 have h4:=bulk_eq a
 have h5:=bulk_eq b
 simp only [List.length_nil] at h1
 show (List.foldl chgStep _ (preF [] b)).2.length+_≤_
 omega
def bmT (n m:Nat):Array Bool:=((List.range n).map (fun j=>m.testBit j)).toArray
def ThereI (w:World) (g:Nat) (t:File) (L:List Step) (k:Nat) (wr:World) (v:Value):Prop :=
 ∃ (S:Nat→Prop) (f:FsV) (told:List (List ByteArray)),FsIn S wr g f∧(∀ j,S j→w.heap.size≤j∧j<wr.heap.size)∧Kd.N PathK 40 wr w.heap.size (fun j=>¬ S j) v told ∧
  rightT f.tree=true∧f.tree.bulk≤t.bulk+259 * k+stepsB (L.take k)∧f.trace.length≤k∧told.length≤2 * k∧(∀ r,lookK t r≠lookK f.tree r→r∈told)∧Below w.heap.size w wr
theorem steps_takeH {L:List Step} {k:Nat} (hk:k<L.length):stepsB (L.take (k+1))=stepsB (L.take k)+stepB L[k]:=by
 rw [List.take_succ_eq_append_getElem hk]
 simp only [stepsB,List.map_append,List.map_cons,List.map_nil,List.sum_append,List.sum_cons,List.sum_nil]
 omega
theorem steps_leH (L:List Step) (k:Nat):stepsB (L.take k)≤stepsB L:=by
 have h:stepsB L=stepsB (L.take k)+stepsB (L.drop k):=by
  have h0:=congrArg stepsB (List.take_append_drop k L)
  rw [← h0]
  simp only [stepsB,List.map_append,List.sum_append]
 omega
theorem N_overH {α:Type} {d:Kd α} {e base:Nat} {W W':World} {S:Nat→Prop} {v:Value} {xs:List α} (h:Kd.N d e W base (fun j=>¬ S j) v xs) (ho:Only S W W'):Kd.N d e W' base (fun j=>¬ Grown S W W' j) v xs :=
 Kd.N_mono (Kd.N_step (Kd.N_bound h) fun k hk hl=>ho.block k hl hk.1) fun k hk hg=>hg.elim hk.1 fun h=>by have:=hk.2;omega
theorem path_FK {W:World} {ok:Nat→Prop} {B:Option Addr} {d:Nat} {p:List ByteArray} (h:Kd.F Kd.string W ok B p.length p) (hd:p.length≤d):Kd.FK PathK W ok p [.slice B p.length d] :=
 fun W' hW=>⟨B,d,rfl,hd,h W' hW⟩
theorem two_paths {W:World} {g:Nat} {ok:Nat→Prop} {B B2:Option Addr} {d d2:Nat} {p q:List ByteArray} (hg:W.heap[g]? = some (.cells #[.slice B p.length d,.slice B2 q.length d2] 40 (0,0))) (hp:Kd.F Kd.string W ok B p.length p) (hd:p.length≤d) (hq:Kd.F Kd.string W ok B2 q.length q) (hd2:q.length≤d2) :
  Kd.F PathK W (fun k=>k=g∨ok k) (some ⟨g,0,none⟩) 2 [p,q]:=fun W' hW=>by
 have hg':W'.heap[g]? = _:=(hW g (.inl rfl) (blk_lt hg)).trans hg
 have hp':=hp W' fun k hk=>hW k (.inr hk)
 have hq':=hq W' fun k hk=>hW k (.inr hk)
 refine ⟨rfl,by decide,fun _=>⟨_,rfl,fun j r hj => ?_⟩⟩
 have hlt:j<2:=(List.getElem?_eq_some_iff.1 hj).1
 match j,hlt with
 | 0,_ =>
  obtain rfl:p=r:=by simpa using hj
  refine ⟨[.slice B p.length d],rfl,⟨B,d,rfl,hd,hp'⟩,fun i u hu => ?_⟩
  have hi:i<1:=(List.getElem?_eq_some_iff.1 hu).1
  obtain rfl:i=0:=by omega
  obtain rfl:Value.slice B p.length d=u:=by simpa using hu
  exact cell_of hg' rfl
 | 1,_ =>
  obtain rfl:q=r:=by simpa using hj
  refine ⟨[.slice B2 q.length d2],rfl,⟨B2,d2,rfl,hd2,hq'⟩,fun i u hu => ?_⟩
  have hi:i<1:=(List.getElem?_eq_some_iff.1 hu).1
  obtain rfl:i=0:=by omega
  obtain rfl:Value.slice B2 q.length d2=u:=by simpa using hu
  rw [show 1 * PathK.sz+0=1 by rfl,add_plain]
  exact cell_of hg' rfl
set_option maxHeartbeats 8000000 in
set_option maxRecDepth 100000 in
theorem lvthere_calls (t:File) (A:Option Addr) (c:Nat) (Al:Option Addr) (cl:Nat) (l:List Int) (AL:Option Addr) (cL:Nat) (L:List Step) (w:World) (ht:FileK.C w A t.files.length t.files) (hc:t.files.length≤c) (hbt:t.bulk≤1048576) (hl:Kd.C (Kd.int .i64) w Al l.length l) (hcl:l.length≤cl) (hll:l.length≤1048576) (hL:StepK.C w AL L.length L) (hcL:L.length≤cL) (hsl:stepsB L≤1048576) :
  Calls Tryz.prog 4 #[fileV t A c,.slice Al l.length cl,.slice AL L.length cL] w fun e w'=>e=.returned (.bool true)∧Below w.heap.size w w':=by
 have HT:=Lib.hid ht
 have HL:=Lib.hid hL
 have HF:=Lib.hid hl
 have HSL:=Lib.hid hsl
 have hlen:=steps_len L
 have hLb:L.length≤209715:=by omega
 have hax:=below_alloc (Below.refl w.heap.size w) (.cells (fc t A c) 25)
 have HX0:=Lib.hid (blk_new w (.cells (fc t A c) 25))
 have HAX:=Lib.hid hax
 clear ht hL hl hsl hax
 go_enter Tryz.func4,Tryz.ntmps4
 unfold fileV
 go_wp2_with fail
 generalize (w.alloc (.cells (fc t A c) 25))=W0 at *
 have hs0:=HAX.out.size
 refine (begins_calls W0).mono ?_
 rintro e w1 ⟨rfl,hq1⟩
 have hb1:=HAX.out.trans (hq1.mono hs0)
 have hs1:=hq1.size
 have HX1:=Lib.hid ((hq1.block _ (blk_lt HX0.out)).trans HX0.out)
 obtain ⟨l0,l1,l2,l3⟩:=c4A HX1.out
 go_wp2_with fail
 clear l0 l1 l2 l3
 refine (show Calls Tryz.prog 6 #[.agg (fc t A c),.slice Al l.length cl] w1 _ from new_in t A c Al cl l w1 (Kd.C_below HT.out hb1) hc (by omega) (Kd.C_below HF.out hb1) hcl (by omega)).mono ?_
 rintro e w2 (⟨hr,rfl,hq2⟩ | ⟨hr,g1,rfl,hf,hq2⟩)
 ·have hb2:=hb1.trans (hq2.mono hb1.size)
  go_wp2_with fail
  go_ret
  exact ⟨rfl,hb2⟩
 have hb2:=hb1.trans (hq2.mono hb1.size)
 have hs2:=hq2.size
 have hx0:=blk_lt HX0.out
 have HRT:=Lib.hid hr
 have hb02:=hq1.trans (hq2.mono hs1)
 have HI0:Hid (ThereI W0 g1 t L 0 w2 (.slice none 0 0)):=Lib.hid ⟨_,_,[],hf,fun j h=>⟨by have:=h.1;omega,h.2⟩,Kd.N_nil _ _ _ _ _,hr,by show t.bulk≤_;omega,Nat.le_refl _,Nat.le_refl _,(fun r h=>absurd rfl h),hb02⟩
 have HA0:=HAX
 have HL0:=Lib.hid (Kd.C_below HL.out HAX.out)
 have HT0:=Lib.hid (Kd.C_below HT.out HAX.out)
 clear hf hb1 hb2 hq1 hq2 HX1 HAX hr hb02 HL HT HF
 go_wp2_with fail
 go_loopw [9,10] (fun v i wr=>∃ k:Nat,k≤L.length∧i=.int .i64 k∧Hid (ThereI W0 g1 t L k wr v)) (fun _ i _=>L.length - (RowKit.intOf i).toNat)
 case atStart=>exact ⟨0,by omega,rfl,HI0⟩
 case round =>
  clear HI0
  generalize u9=v at *
  obtain ⟨k,hk,rfl,HI⟩:=hrel
  have hbase:Below W0.heap.size W0 wr:=by
   obtain ⟨_,_,_,_,_,_,_,_,_,_,_,hb⟩:=HI.out
   exact hb
  have hbase0:=hbase
  by_cases q1:k<L.length
  ·obtain ⟨ad,A1,c1,B1,d1,rfl,p0,p1,p2,p3,hc1,HP,hd1,HQ⟩:=step_at HL0.out hbase k q1
   have hsb:=stepB_mem (List.getElem_mem q1)
   have HTK:=Lib.hid (steps_takeH q1)
   have hsk:=steps_leH L k
   generalize L[k]=x at *
   have HP0:=Lib.hid HP
   have HQ0:=Lib.hid HQ
   have hsl:=HSL.out
   have hxp:P.sumP x.path≤1048576:=by unfold stepB at hsb;have:P.sumP x.path=sumP x.path:=rfl;omega
   have hxq:P.sumP x.dest≤1048576:=by unfold stepB at hsb;have:P.sumP x.dest=sumP x.dest:=rfl;omega
   have hxd:x.data.size≤1048576:=by unfold stepB at hsb;omega
   have hxs:x.data.size+5≤stepB x:=by unfold stepB;omega
   have hxpl:=P.sumP_len x.path
   have hxql:=P.sumP_len x.dest
   have hwr:=hbase.size
   obtain ⟨S,f,told,h1,h4,h5,h6,h7,h8,h9,h10,h11⟩:=HI.out
   have hfb:f.tree.bulk≤100000000:=by omega
   have hfl:f.trace.length≤1000000:=by omega
   have H6:=Lib.hid h6
   have HLK:=Lib.hid h10
   have hax:=below_alloc (Below.refl wr.heap.size wr) (.cells #[.int .u8 x.kind,.slice A1 x.path.length c1,.slice B1 x.dest.length d1,.string x.data] 42)
   have HX:=Lib.hid (blk_new wr (.cells #[.int .u8 x.kind,.slice A1 x.path.length c1,.slice B1 x.dest.length d1,.string x.data] 42))
   have HAX:=Lib.hid hax
   have H1:=Lib.hid (h1.below hax)
   have HTN:=Lib.hid (Kd.N_below h5 hax)
   have g1':(k:Int)<(L.length:Int):=by omega
   clear HP HQ hsl hax h1 h5 h6 h10 h11 HI
   go_wp2_with fail
   clear p0 p1 p2 p3
   generalize (wr.alloc (.cells #[.int .u8 x.kind,.slice A1 x.path.length c1,.slice B1 x.dest.length d1,.string x.data] 42))=X1 at *
   have hsX:=HAX.out.size
   have hxlt:=blk_lt HX.out
   refine (tree_in X1 g1 S f H1.out (by omega)).mono ?_
   rintro e w4 ⟨A5,c5,rfl,hc5,hR5,hq4⟩
   unfold fileV
   have hs4:=hq4.size
   have HNF:=Lib.hid (Kd.F_mono (Kd.R_F (Kd.R_bound hR5)) (ok':=fun j=>X1.heap.size≤j∧j<w4.heap.size) fun j hj=>⟨hj.2.1,hj.2.2.1⟩)
   have hr4:=HAX.out.trans (hq4.mono hsX)
   have hax:=below_alloc (Below.refl w4.heap.size w4) (.cells (fc f.tree A5 c5) 25)
   have HNB:=Lib.hid (blk_new w4 (.cells (fc f.tree A5 c5) 25))
   have hr5:=hr4.trans (hax.mono hr4.size)
   have HR5:=Lib.hid hr5
   have HX5:=Lib.hid ((hax.block _ (blk_lt ((hq4.block _ (blk_lt HX.out)).trans HX.out))).trans ((hq4.block _ (blk_lt HX.out)).trans HX.out))
   have HC5:=Lib.hid (Kd.F_below HNF.out hax)
   have H15:=Lib.hid ((H1.out.below hq4).below hax)
   have HT5:=Lib.hid (Kd.N_below (Kd.N_below HTN.out hq4) hax)
   have hzX:w4.heap.size<(w4.alloc (.cells (fc f.tree A5 c5) 25)).heap.size:=by simp
   obtain ⟨e0,e1,e2,e3⟩:=c4A HX5.out
   obtain ⟨n0,n1,n2,n3⟩:=c4A HNB.out
   clear hR5 hq4 hr4 hax HX H1 HTN HNF HAX
   go_wp2_with fail
   clear e0 e1 e2 e3
   clear n0 n1 n2 n3
   generalize (w4.alloc (.cells (fc f.tree A5 c5) 25))=X5 at *
   have hb5:=hbase.trans (HR5.out.mono hwr)
   have hs5:=HR5.out.size
   have hFP:=Lib.hid (Kd.F_below HP0.out HR5.out)
   have hFQ:=Lib.hid (Kd.F_below HQ0.out HR5.out)
   obtain ⟨⟨f',a,why⟩,hdo⟩:∃ r,doV f x=r:=⟨_,rfl⟩
   have HDO:=Lib.hid hdo
   have hth:=do_there f x H6.out
   have hgf:=do_grows f x H6.out
   rw [hdo] at hth hgf
   simp only at hth hgf
   have HTH:=Lib.hid hth
   have HGF:=Lib.hid hgf
   have hcd:=do_in X5 g1 S f H15.out hfb (by omega) x A1 B1 c1 d1 (Kd.F_mono hFP.out fun j hj hS=>by have:=(h4 j hS).1;omega) hc1 (by omega) (Kd.F_mono hFQ.out fun j hj hS=>by have:=(h4 j hS).1;omega) hd1 (by omega) (by omega)
   rw [hdo] at hcd
   refine hcd.mono ?_
   clear hcd hdo hth hgf
   rintro e w6 ⟨rfl,hf6,ho6⟩
   have hs6:=ho6.size
   have hax:=below_alloc (Below.refl w6.heap.size w6) (.cells #[.int .u8 a.kind,.int .i64 a.size,.string a.data] 46)
   have HF7:=Lib.hid (hf6.below hax)
   have HX6:=(ho6.block _ (by omega) (fun hS=>by have:=(h4 _ hS).2;omega)).trans HX5.out
   have HX7:=Lib.hid ((hax.block _ (blk_lt HX6)).trans HX6)
   have HN6:=(ho6.block w4.heap.size (by omega) (fun hS=>by have:=(h4 _ hS).2;omega)).trans HNB.out
   have HN7:=Lib.hid ((hax.block _ (blk_lt HN6)).trans HN6)
   have hb6:=hb5.trans ((ho6.below (B:=W0.heap.size) (by omega) (fun j hj hS=>by have:=(h4 j hS).1;omega)))
   have HB7:=Lib.hid (hb6.trans (hax.mono hb6.size))
   have HT7:=Lib.hid (Kd.N_below (N_overH HT5.out ho6) hax)
   have HC7:=Lib.hid (Kd.F_below (Kd.F_step HC5.out (W1:=w6) fun j hj hl=>ho6.block j hl fun hS=>by have:=(h4 j hS).2;omega) hax)
   have hz7:w6.heap.size<(w6.alloc (.cells #[.int .u8 a.kind,.int .i64 a.size,.string a.data] 46)).heap.size:=by simp
   have HFP7:=Lib.hid (Kd.F_below (Kd.F_step hFP.out (W1:=w6) fun j hj hl=>ho6.block j hl fun hS=>by have:=(h4 j hS).1;omega) hax)
   have HFQ7:=Lib.hid (Kd.F_below (Kd.F_step hFQ.out (W1:=w6) fun j hj hl=>ho6.block j hl fun hS=>by have:=(h4 j hS).1;omega) hax)
   obtain ⟨X7,hX7⟩:∃ W,w6.alloc (.cells #[.int .u8 a.kind,.int .i64 a.size,.string a.data] 46)=W:=⟨_,rfl⟩
   rw [hX7] at HF7 HX7 HN7 HB7 HT7 HC7 hz7 HFP7 HFQ7
   clear hf6 ho6 hax hb6 HX6 HN6 hb5 HX5 HNB HC5 H15 HT5 hFP hFQ hbase
   by_cases hw:why=0
   rotate_left
   ·have hwb:(why != 0)=true:=bne_iff_ne.2 hw
    have HSM:=Lib.hid (HTH.out.1 (.inl hw))
    have HF8:=Lib.hid (HF7.out.below (Below.refl X7.heap.size X7))
    have HX8:=Lib.hid (((Below.refl X7.heap.size X7).block _ (blk_lt HX7.out)).trans HX7.out)
    have HN8:=Lib.hid (((Below.refl X7.heap.size X7).block _ (blk_lt HN7.out)).trans HN7.out)
    have HC8:=Lib.hid (Kd.F_below HC7.out (Below.refl X7.heap.size X7))
    have HT8:=Lib.hid (Kd.N_below HT7.out (Below.refl X7.heap.size X7))
    have HB8:=Lib.hid (HB7.out.trans ((Below.refl X7.heap.size X7).mono HB7.out.size))
    have HGS:Hid (∀ j,Grown S X5 w6 j→W0.heap.size≤j∧j<X7.heap.size):=Lib.hid (fun j hj=>by
     have:=Below.size (Below.refl X7.heap.size X7)
     rcases hj with hj | hj
     ·have:=h4 j hj
      omega
     ·omega)
    clear hw
    go_wp2_with fail
    refine start_ (n:=5) (S:=fun w'=>w'.heap[w4.heap.size]? = some (.cells (fc f.tree A5 c5) 25 (0,0))) (ds:=[]) (bmT 5 0) (by kernel_rfl) rfl rfl HN8.out (fun hHeld => ?_)
    refine pA 0 63 (bmT 5 1) ?_
    refine tA 2 65 (bmT 5 5) hHeld ?_ (hy:=by
     rintro w' s0
     have q0:=cell_of (j:=0) s0 rfl
     have q1:=cell_of (j:=1) s0 rfl
     have q2:=cell_of (j:=2) s0 rfl
     have q3:=cell_of (j:=3) s0 rfl
     go_simp
     with_reducible rfl)
    refine eA 1 64 (bmT 5 7) (fun K hK => ?_)
    refine gA Tryz.func12 #[.pointer (some ⟨g1,0,none⟩)] ?_
    refine (tree_in _ g1 (Grown S X5 w6) f' (HF8.out.below (bdrew (Below.refl X7.heap.size X7))) (by rw [HSM.out];omega)).mono ?_
    rintro e u7 ⟨A9,c9,rfl,hc9,hR9,hq9⟩
    rw [HSM.out] at hR9 hc9 ⊢
    have hC9:=(Kd.R_reads' hR9).2.2
    have hb9:=(bdrew (Below.refl X7.heap.size X7)).trans (hq9.mono (Below.size (bdrew (Below.refl X7.heap.size X7))))
    refine ⟨_,rfl,?_⟩
    refine hK.out _ _ ((hb9.block _ (blk_lt HN8.out)).trans HN8.out) (fun hHeld => ?_)
    refine nA 64 ?_
    refine eA 3 66 (bmT 5 15) (fun K hK => ?_)
    refine gA Tryz.func11 #[.agg (fc f.tree A9 c9),.agg (fc f.tree A5 c5)] ?_
    refine (show Calls Tryz.prog 11 #[.agg (fc f.tree A9 c9),.agg (fc f.tree A5 c5)] _ _ from sameC f.tree A9 A5 c9 c5 _ (by omega) hC9 hc9 (Kd.F_now (Kd.F_below HC8.out hb9)) hc5).mono ?_
    rintro e u8 ⟨rfl,hq10⟩
    have hb10:=hb9.trans (hq10.mono hb9.size)
    refine ⟨_,rfl,?_⟩
    refine hK.out _ _ ((hb10.block _ (blk_lt HN8.out)).trans HN8.out) (fun hHeld => ?_)
    refine nA 66 ?_
    refine pA 4 67 (bmT 5 31) ?_
    refine done_ (by kernel_rfl) ?_
    have HNX:Hid (ThereI W0 g1 t L (k+1) u8 v):=Lib.hid (by
     have htk:=HTK.out
     obtain ⟨q1,q2,q3,q4⟩:=HGF.out
     exact ⟨Grown S X5 w6,f',told,HF8.out.below hb10,fun j hj=>⟨(HGS.out j hj).1,by have:=(HGS.out j hj).2;have:=hb10.size;omega⟩,Kd.N_below HT8.out hb10,q1,by omega,by omega,by omega,by rw [HSM.out];exact HLK.out,HB8.out.trans (hb10.mono HB8.out.size)⟩)
    go_wp2_with fail
    go_roundw
    case rel=>exact ⟨k+1,by omega,by go_num,HNX⟩
    case measure=>simp [RowKit.intOf];omega
   obtain rfl:=hw
   obtain ⟨e0,e1,e2,e3⟩:=c4A HX7.out
   go_wp2_with fail
   clear e0 e1 e2 e3
   refine (isCall_calls x A1 B1 c1 d1 X7).mono ?_
   rintro e w8 ⟨rfl,hq8⟩
   have hs8:=hq8.size
   have HQ8:=Lib.hid hq8
   clear hq8
   obtain ⟨b,hbb⟩:∃ b,oneOf x=b:=⟨_,rfl⟩
   rw [hbb]
   have HBB:=Lib.hid hbb
   clear hbb
   have HF8:=Lib.hid (HF7.out.below HQ8.out)
   have HX8:=Lib.hid ((HQ8.out.block _ (blk_lt HX7.out)).trans HX7.out)
   have HN8:=Lib.hid ((HQ8.out.block _ (blk_lt HN7.out)).trans HN7.out)
   have HC8:=Lib.hid (Kd.F_below HC7.out HQ8.out)
   have HT8:=Lib.hid (Kd.N_below HT7.out HQ8.out)
   have HB8:=Lib.hid (HB7.out.trans (HQ8.out.mono HB7.out.size))
   have HGS:Hid (∀ j,Grown S X5 w6 j→W0.heap.size≤j∧j<w8.heap.size):=Lib.hid (fun j hj=>by
    have:=Below.size HQ8.out
    rcases hj with hj | hj
    ·have:=h4 j hj
     omega
    ·omega)
   have HFP8:=Lib.hid (Kd.F_below HFP7.out HQ8.out)
   have HFQ8:=Lib.hid (Kd.F_below HFQ7.out HQ8.out)
   cases b
   ·have HSM:=Lib.hid (HTH.out.1 (.inr (.inl HBB.out)))
    go_wp2_with fail
    refine start_ (n:=5) (S:=fun w'=>w'.heap[w4.heap.size]? = some (.cells (fc f.tree A5 c5) 25 (0,0))) (ds:=[]) (bmT 5 0) (by kernel_rfl) rfl rfl HN8.out (fun hHeld => ?_)
    refine pA 0 63 (bmT 5 1) ?_
    refine tA 2 65 (bmT 5 5) hHeld ?_ (hy:=by
     rintro w' s0
     have q0:=cell_of (j:=0) s0 rfl
     have q1:=cell_of (j:=1) s0 rfl
     have q2:=cell_of (j:=2) s0 rfl
     have q3:=cell_of (j:=3) s0 rfl
     go_simp
     with_reducible rfl)
    refine eA 1 64 (bmT 5 7) (fun K hK => ?_)
    refine gA Tryz.func12 #[.pointer (some ⟨g1,0,none⟩)] ?_
    refine (tree_in _ g1 (Grown S X5 w6) f' (HF8.out.below (bdrew (Below.refl w8.heap.size w8))) (by rw [HSM.out];omega)).mono ?_
    rintro e u7 ⟨A9,c9,rfl,hc9,hR9,hq9⟩
    rw [HSM.out] at hR9 hc9 ⊢
    have hC9:=(Kd.R_reads' hR9).2.2
    have hb9:=(bdrew (Below.refl w8.heap.size w8)).trans (hq9.mono (Below.size (bdrew (Below.refl w8.heap.size w8))))
    refine ⟨_,rfl,?_⟩
    refine hK.out _ _ ((hb9.block _ (blk_lt HN8.out)).trans HN8.out) (fun hHeld => ?_)
    refine nA 64 ?_
    refine eA 3 66 (bmT 5 15) (fun K hK => ?_)
    refine gA Tryz.func11 #[.agg (fc f.tree A9 c9),.agg (fc f.tree A5 c5)] ?_
    refine (show Calls Tryz.prog 11 #[.agg (fc f.tree A9 c9),.agg (fc f.tree A5 c5)] _ _ from sameC f.tree A9 A5 c9 c5 _ (by omega) hC9 hc9 (Kd.F_now (Kd.F_below HC8.out hb9)) hc5).mono ?_
    rintro e u8 ⟨rfl,hq10⟩
    have hb10:=hb9.trans (hq10.mono hb9.size)
    refine ⟨_,rfl,?_⟩
    refine hK.out _ _ ((hb10.block _ (blk_lt HN8.out)).trans HN8.out) (fun hHeld => ?_)
    refine nA 66 ?_
    refine pA 4 67 (bmT 5 31) ?_
    refine done_ (by kernel_rfl) ?_
    have HNX:Hid (ThereI W0 g1 t L (k+1) u8 v):=Lib.hid (by
     have htk:=HTK.out
     obtain ⟨q1,q2,q3,q4⟩:=HGF.out
     exact ⟨Grown S X5 w6,f',told,HF8.out.below hb10,fun j hj=>⟨(HGS.out j hj).1,by have:=(HGS.out j hj).2;have:=hb10.size;omega⟩,Kd.N_below HT8.out hb10,q1,by omega,by omega,by omega,by rw [HSM.out];exact HLK.out,HB8.out.trans (hb10.mono HB8.out.size)⟩)
    go_wp2_with fail
    go_roundw
    case rel=>exact ⟨k+1,by omega,by go_num,HNX⟩
    case measure=>simp [RowKit.intOf];omega
   by_cases hkf:x.kind=3
   ·skip
    have k3b:(x.kind == 3)=true:=beq_iff_eq.2 hkf
    have HOW:Hid (∀ j,w8.heap.size≤j→¬ Grown S X5 w6 j∧some j≠v.ownBlock):=Lib.hid (fun j hj=>⟨fun h=>by have:=(HGS.out j h).2;omega,fun e=>by have:=((Kd.N_bound HT8.out).1 j e.symm).2;omega⟩)
    obtain ⟨e0,e1,e2,e3⟩:=c4A HX8.out
    obtain ⟨n0,n1,n2,n3⟩:=c4A HN8.out
    go_wp2_with fail
    clear e0 e1 e2 e3 n0 n1 n2 n3
    refine (realF_calls f.tree A5 c5 A1 c1 x.path true w8 (Kd.F_now (Kd.F_below HC7.out HQ8.out)) hc5 (by omega) (Kd.F_now (Kd.F_below HFP7.out HQ8.out)) hc1 (by omega) (by omega)).mono ?_
    rintro e w9 ⟨B9,d9,rfl,hd9,hF9,hq9⟩
    have HQ9:=Lib.hid (HQ8.out.trans (hq9.mono HQ8.out.size))
    have HF9:=Lib.hid hF9
    have hs9:=hq9.size
    obtain ⟨hz9,hlk⟩:=HTH.out.2.1 (.inl hkf) trivial
    rw [hz9]
    obtain ⟨p,hp⟩:∃ p,(realR f.tree x.path true).1=p:=⟨_,rfl⟩
    rw [hp] at hlk hd9 HF9 ⊢
    have HLK2:=Lib.hid hlk
    clear hlk hz9 hp hF9 hq9
    have HF8:=Lib.hid (HF7.out.below HQ9.out)
    have HX8:=Lib.hid ((HQ9.out.block _ (blk_lt HX7.out)).trans HX7.out)
    have HN8:=Lib.hid ((HQ9.out.block _ (blk_lt HN7.out)).trans HN7.out)
    have HC8:=Lib.hid (Kd.F_below HC7.out HQ9.out)
    have HT8:=Lib.hid (Kd.N_below HT7.out HQ9.out)
    have HB8:=Lib.hid (HB7.out.trans (HQ9.out.mono HB7.out.size))
    have HGS:Hid (∀ j,Grown S X5 w6 j→W0.heap.size≤j∧j<w9.heap.size):=Lib.hid (fun j hj=>by
     have:=Below.size HQ9.out
     rcases hj with hj | hj
     ·have:=h4 j hj
      omega
     ·omega)
    go_wp2_with (at_builtin;refine Kd.N_append PathK (w0:=W0) W0.heap.size rfl (.tmp 82) (.tmp 84) 58 40 (.slice none 0 0) 24 rfl Tryz.underlying58 info_path rfl (by decide) (by decide) v told p [.slice B9 p.length d9] (fun j=>¬ Grown S X5 w6 j) (fun j=>w8.heap.size≤j) rfl rfl ?aP ?aK ?aF ?aO ?aB ?aS ?aL ?_;(case aP=>exact path_FK HF9.out hd9);(case aK=>exact HOW.out);(case aF=>exact fun j hj h=>by have:=(HGS.out j h).2;omega);(case aO=>exact HT8.out);(case aB=>exact HB8.out);(case aS=>exact HB8.out.size);(case aL=>omega);intro v1 w11 hn1 hb11 hg11 hat11;have HN11:=Lib.hid hn1;have HB11:=Lib.hid hb11;have hs11:=hg11.size;have HF11:=Lib.hid (HF8.out.keep (Only.grown_of hg11) fun j hj e=>HT8.out.1 j e hj))
    clear hn1 hb11 hg11 hat11
    have HNX:Hid (ThereI W0 g1 t L (k+1) w11 v1):=Lib.hid (by
     have htk:=HTK.out
     obtain ⟨q1,q2,q3,q4⟩:=HGF.out
     exact ⟨Grown S X5 w6,f',told++[p],HF11.out,fun j hj=>⟨(HGS.out j hj).1,by have:=(HGS.out j hj).2;omega⟩,HN11.out,q1,by omega,by omega,by simp only [List.length_append,List.length_cons,List.length_nil];omega,fun r hr=>by
      by_cases e:r=p
      ·subst e;simp
      ·rw [HLK2.out r e] at hr;exact List.mem_append_left _ (HLK.out r hr),HB11.out⟩)
    go_wp2_with fail
    go_roundw
    case rel=>exact ⟨k+1,by omega,by go_num,HNX⟩
    case measure=>simp [RowKit.intOf];omega
   have hk3:=hkf
   clear hkf
   by_cases hkf:x.kind=4
   ·skip
    have k3b:(x.kind == 3)=false:=beq_eq_false_iff_ne.2 hk3
    have k4b:(x.kind == 4)=true:=beq_iff_eq.2 hkf
    have HOW:Hid (∀ j,w8.heap.size≤j→¬ Grown S X5 w6 j∧some j≠v.ownBlock):=Lib.hid (fun j hj=>⟨fun h=>by have:=(HGS.out j h).2;omega,fun e=>by have:=((Kd.N_bound HT8.out).1 j e.symm).2;omega⟩)
    obtain ⟨e0,e1,e2,e3⟩:=c4A HX8.out
    obtain ⟨n0,n1,n2,n3⟩:=c4A HN8.out
    go_wp2_with fail
    clear e0 e1 e2 e3 n0 n1 n2 n3
    refine (realF_calls f.tree A5 c5 A1 c1 x.path true w8 (Kd.F_now (Kd.F_below HC7.out HQ8.out)) hc5 (by omega) (Kd.F_now (Kd.F_below HFP7.out HQ8.out)) hc1 (by omega) (by omega)).mono ?_
    rintro e w9 ⟨B9,d9,rfl,hd9,hF9,hq9⟩
    have HQ9:=Lib.hid (HQ8.out.trans (hq9.mono HQ8.out.size))
    have HF9:=Lib.hid hF9
    have hs9:=hq9.size
    obtain ⟨hz9,hlk⟩:=HTH.out.2.1 (.inr hkf) trivial
    rw [hz9]
    obtain ⟨p,hp⟩:∃ p,(realR f.tree x.path true).1=p:=⟨_,rfl⟩
    rw [hp] at hlk hd9 HF9 ⊢
    have HLK2:=Lib.hid hlk
    clear hlk hz9 hp hF9 hq9
    have HF8:=Lib.hid (HF7.out.below HQ9.out)
    have HX8:=Lib.hid ((HQ9.out.block _ (blk_lt HX7.out)).trans HX7.out)
    have HN8:=Lib.hid ((HQ9.out.block _ (blk_lt HN7.out)).trans HN7.out)
    have HC8:=Lib.hid (Kd.F_below HC7.out HQ9.out)
    have HT8:=Lib.hid (Kd.N_below HT7.out HQ9.out)
    have HB8:=Lib.hid (HB7.out.trans (HQ9.out.mono HB7.out.size))
    have HGS:Hid (∀ j,Grown S X5 w6 j→W0.heap.size≤j∧j<w9.heap.size):=Lib.hid (fun j hj=>by
     have:=Below.size HQ9.out
     rcases hj with hj | hj
     ·have:=h4 j hj
      omega
     ·omega)
    go_wp2_with (at_builtin;refine Kd.N_append PathK (w0:=W0) W0.heap.size rfl (.tmp 82) (.tmp 84) 58 40 (.slice none 0 0) 24 rfl Tryz.underlying58 info_path rfl (by decide) (by decide) v told p [.slice B9 p.length d9] (fun j=>¬ Grown S X5 w6 j) (fun j=>w8.heap.size≤j) rfl rfl ?aP ?aK ?aF ?aO ?aB ?aS ?aL ?_;(case aP=>exact path_FK HF9.out hd9);(case aK=>exact HOW.out);(case aF=>exact fun j hj h=>by have:=(HGS.out j h).2;omega);(case aO=>exact HT8.out);(case aB=>exact HB8.out);(case aS=>exact HB8.out.size);(case aL=>omega);intro v1 w11 hn1 hb11 hg11 hat11;have HN11:=Lib.hid hn1;have HB11:=Lib.hid hb11;have hs11:=hg11.size;have HF11:=Lib.hid (HF8.out.keep (Only.grown_of hg11) fun j hj e=>HT8.out.1 j e hj))
    clear hn1 hb11 hg11 hat11
    have HNX:Hid (ThereI W0 g1 t L (k+1) w11 v1):=Lib.hid (by
     have htk:=HTK.out
     obtain ⟨q1,q2,q3,q4⟩:=HGF.out
     exact ⟨Grown S X5 w6,f',told++[p],HF11.out,fun j hj=>⟨(HGS.out j hj).1,by have:=(HGS.out j hj).2;omega⟩,HN11.out,q1,by omega,by omega,by simp only [List.length_append,List.length_cons,List.length_nil];omega,fun r hr=>by
      by_cases e:r=p
      ·subst e;simp
      ·rw [HLK2.out r e] at hr;exact List.mem_append_left _ (HLK.out r hr),HB11.out⟩)
    go_wp2_with fail
    go_roundw
    case rel=>exact ⟨k+1,by omega,by go_num,HNX⟩
    case measure=>simp [RowKit.intOf];omega
   have hk4:=hkf
   clear hkf
   by_cases hkf:x.kind=5
   ·skip
    have k3b:(x.kind == 3)=false:=beq_eq_false_iff_ne.2 hk3
    have k4b:(x.kind == 4)=false:=beq_eq_false_iff_ne.2 hk4
    have k5b:(x.kind == 5)=true:=beq_iff_eq.2 hkf
    have HOW:Hid (∀ j,w8.heap.size≤j→¬ Grown S X5 w6 j∧some j≠v.ownBlock):=Lib.hid (fun j hj=>⟨fun h=>by have:=(HGS.out j h).2;omega,fun e=>by have:=((Kd.N_bound HT8.out).1 j e.symm).2;omega⟩)
    obtain ⟨e0,e1,e2,e3⟩:=c4A HX8.out
    obtain ⟨n0,n1,n2,n3⟩:=c4A HN8.out
    go_wp2_with fail
    clear e0 e1 e2 e3 n0 n1 n2 n3
    refine (realF_calls f.tree A5 c5 A1 c1 x.path false w8 (Kd.F_now (Kd.F_below HC7.out HQ8.out)) hc5 (by omega) (Kd.F_now (Kd.F_below HFP7.out HQ8.out)) hc1 (by omega) (by omega)).mono ?_
    rintro e w9 ⟨B9,d9,rfl,hd9,hF9,hq9⟩
    have HQ9:=Lib.hid (HQ8.out.trans (hq9.mono HQ8.out.size))
    have HF9:=Lib.hid hF9
    have hs9:=hq9.size
    have HF8:=Lib.hid (HF7.out.below HQ9.out)
    have HX8:=Lib.hid ((HQ9.out.block _ (blk_lt HX7.out)).trans HX7.out)
    have HN8:=Lib.hid ((HQ9.out.block _ (blk_lt HN7.out)).trans HN7.out)
    have HC8:=Lib.hid (Kd.F_below HC7.out HQ9.out)
    have HT8:=Lib.hid (Kd.N_below HT7.out HQ9.out)
    have HB8:=Lib.hid (HB7.out.trans (HQ9.out.mono HB7.out.size))
    have HGS:Hid (∀ j,Grown S X5 w6 j→W0.heap.size≤j∧j<w9.heap.size):=Lib.hid (fun j hj=>by
     have:=Below.size HQ9.out
     rcases hj with hj | hj
     ·have:=h4 j hj
      omega
     ·omega)
    obtain ⟨e0,e1,e2,e3⟩:=c4A HX8.out
    obtain ⟨n0,n1,n2,n3⟩:=c4A HN8.out
    go_wp2_with fail
    clear e0 e1 e2 e3 n0 n1 n2 n3
    refine (realF_calls f.tree A5 c5 B1 d1 x.dest false w9 (Kd.F_now (Kd.F_below HC7.out HQ9.out)) hc5 (by omega) (Kd.F_now (Kd.F_below HFQ7.out HQ9.out)) hd1 (by omega) (by omega)).mono ?_
    rintro e wa ⟨Ba,da,rfl,hda,hFa,hqa⟩
    have HQa:=Lib.hid (HQ9.out.trans (hqa.mono HQ9.out.size))
    have HFa:=Lib.hid hFa
    have hsa:=hqa.size
    obtain ⟨hz9,hza,hlk⟩:=HTH.out.2.2 hkf trivial
    rw [hz9,hza]
    obtain ⟨p,hp⟩:∃ p,(realR f.tree x.path false).1=p:=⟨_,rfl⟩
    obtain ⟨q,hqq⟩:∃ q,(realR f.tree x.dest false).1=q:=⟨_,rfl⟩
    rw [hp,hqq] at hlk
    rw [hp] at hd9 HF9 ⊢
    rw [hqq] at hda HFa ⊢
    have HLK2:=Lib.hid hlk
    have HF8:=Lib.hid (HF7.out.below HQa.out)
    have HX8:=Lib.hid ((HQa.out.block _ (blk_lt HX7.out)).trans HX7.out)
    have HN8:=Lib.hid ((HQa.out.block _ (blk_lt HN7.out)).trans HN7.out)
    have HC8:=Lib.hid (Kd.F_below HC7.out HQa.out)
    have HT8:=Lib.hid (Kd.N_below HT7.out HQa.out)
    have HB8:=Lib.hid (HB7.out.trans (HQa.out.mono HB7.out.size))
    have HGS:Hid (∀ j,Grown S X5 w6 j→W0.heap.size≤j∧j<wa.heap.size):=Lib.hid (fun j hj=>by
     have:=Below.size HQa.out
     rcases hj with hj | hj
     ·have:=h4 j hj
      omega
     ·omega)
    have hac:=below_alloc (Below.refl wa.heap.size wa) (.cells #[.slice B9 p.length d9,.slice Ba q.length da] 40)
    have HGB:=Lib.hid (blk_new wa (.cells #[.slice B9 p.length d9,.slice Ba q.length da] 40))
    have HP1:=Lib.hid (Kd.F_below (Kd.F_below HF9.out hqa) hac)
    have HP2:=Lib.hid (Kd.F_mono (Kd.F_below HFa.out hac) (ok':=fun j=>w8.heap.size≤j) fun j hj=>by omega)
    have HTB:=Lib.hid (Kd.N_below HT8.out hac)
    have HFB:=Lib.hid (HF8.out.below hac)
    have HBB2:=Lib.hid (HB8.out.trans (hac.mono HB8.out.size))
    have hsb2:(wa.alloc (.cells #[.slice B9 p.length d9,.slice Ba q.length da] 40)).heap.size=wa.heap.size+1:=by simp
    clear hlk hz9 hza hp hqq hF9 hq9 hFa hqa hac
    go_wp2_with (at_builtin;refine Kd.N_append_rows PathK (w0:=W0) W0.heap.size rfl (.tmp 108) (.tmp 111) 58 40 (.slice none 0 0) 24 rfl Tryz.underlying58 info_path rfl (by decide) (by decide) v told [p,q] (some ⟨wa.heap.size,0,none⟩) 2 2 (fun j=>¬ Grown S X5 w6 j) (fun j=>j=wa.heap.size∨w8.heap.size≤j) rfl rfl ?aO ?aR ?aK ?aF ?aB ?aS ?aL ?_;(case aO=>exact HTB.out);(case aR=>exact two_paths HGB.out HP1.out hd9 HP2.out hda);(case aK=>exact fun j hj=>HOW.out j (hj.elim (fun h=>by omega) (fun h=>h)));(case aF=>exact fun j hj h=>by have:=(HGS.out j h).2;simp at hj;omega);(case aB=>exact HBB2.out);(case aS=>exact HBB2.out.size);(case aL=>omega);intro v1 w11 hn1 hb11 hg11 hat11;have HN11:=Lib.hid hn1;have HB11:=Lib.hid hb11;have hs11:=hg11.size;have HF11:=Lib.hid (HFB.out.keep (Only.grown_of hg11) fun j hj e=>HTB.out.1 j e hj))
    clear hn1 hb11 hg11 hat11
    have HNX:Hid (ThereI W0 g1 t L (k+1) w11 v1):=Lib.hid (by
     have htk:=HTK.out
     obtain ⟨q1,q2,q3,q4⟩:=HGF.out
     exact ⟨Grown S X5 w6,f',told++[p,q],HF11.out,fun j hj=>⟨(HGS.out j hj).1,by have:=(HGS.out j hj).2;omega⟩,HN11.out,q1,by omega,by omega,by simp only [List.length_append,List.length_cons,List.length_nil];omega,fun r hr=>by
      by_cases e:r=p
      ·subst e;simp
      ·by_cases e2:r=q
       ·subst e2;simp
       ·rw [HLK2.out r e e2] at hr;exact List.mem_append_left _ (HLK.out r hr),HB11.out⟩)
    go_wp2_with fail
    go_roundw
    case rel=>exact ⟨k+1,by omega,by go_num,HNX⟩
    case measure=>simp [RowKit.intOf];omega
   have k3b:(x.kind == 3)=false:=beq_eq_false_iff_ne.2 hk3
   have k4b:(x.kind == 4)=false:=beq_eq_false_iff_ne.2 hk4
   have k5b:(x.kind == 5)=false:=beq_eq_false_iff_ne.2 hkf
   have HSM:=Lib.hid (HTH.out.1 (.inr (.inr (by have:=HBB.out;simp [oneOf] at this;omega))))
   obtain ⟨e0,e1,e2,e3⟩:=c4A HX8.out
   obtain ⟨n0,n1,n2,n3⟩:=c4A HN8.out
   have HNX:Hid (ThereI W0 g1 t L (k+1) w8 v):=Lib.hid (by
    have htk:=HTK.out
    obtain ⟨q1,q2,q3,q4⟩:=HGF.out
    exact ⟨Grown S X5 w6,f',told,HF8.out,fun j hj=>⟨(HGS.out j hj).1,by have:=(HGS.out j hj).2;omega⟩,HT8.out,q1,by omega,by omega,by omega,by rw [HSM.out];exact HLK.out,HB8.out⟩)
   go_wp2_with fail
   clear e0 e1 e2 e3 n0 n1 n2 n3
   go_roundw
   case rel=>exact ⟨k+1,by omega,by go_num,HNX⟩
   case measure=>simp [RowKit.intOf];omega
  ·obtain rfl:k=L.length:=by omega
   obtain ⟨S,f,told,h1,h4,h5,h6,h7,h8,h9,h10,h11⟩:=HI.out
   have hsl:=HSL.out
   have hsk:=steps_leH L L.length
   have hfb:f.tree.bulk≤100000000:=by omega
   have H1:=Lib.hid h1
   have H5:=Lib.hid h5
   have H6:=Lib.hid h6
   have H10:=Lib.hid h10
   have hwr:=hbase0.size
   clear h1 h5 h6 h10 hsl hsk HI h11
   go_wp2_with fail
   refine (tree_in wr g1 S f H1.out (by omega)).mono ?_
   rintro e w4 ⟨A5,c5,rfl,hc5,hR5,hq4⟩
   unfold fileV
   have hs4:=hq4.size
   have HC4:=Lib.hid (Kd.R_reads' hR5).2.2
   have hax:=below_alloc (Below.refl w4.heap.size w4) (.cells (fc f.tree A5 c5) 25)
   have hr4:=hbase0.trans (hq4.mono hwr)
   have HR5:=Lib.hid (hr4.trans (hax.mono hr4.size))
   have HNB:=Lib.hid (blk_new w4 (.cells (fc f.tree A5 c5) 25))
   have HC5:=Lib.hid (Kd.C_below HC4.out hax)
   have HN5:=Lib.hid (Kd.N_below (Kd.N_below H5.out hq4) hax)
   have HX5:=Lib.hid ((HR5.out.block _ hx0).trans HX0.out)
   have HTX:=Lib.hid (Kd.C_below HT0.out HR5.out)
   clear hR5 hq4 hax hr4 HC4
   obtain ⟨l0,l1,l2,l3⟩:=c4A HX5.out
   obtain ⟨n0,n1,n2,n3⟩:=c4A HNB.out
   go_wp2_with fail
   clear l0 l1 l2 l3 n0 n1 n2 n3
   generalize (w4.alloc (.cells (fc f.tree A5 c5) 25))=X5 at *
   refine (show Calls Tryz.prog 18 #[.agg (fc t A c),.agg (fc f.tree A5 c5)] X5 _ from changed_calls t f.tree A A5 c c5 X5 (by omega) hfb HTX.out hc HC5.out hc5).mono ?_
   rintro e w6 ⟨A9,c9,s,rfl,hc9,hs1,-,hC9,hq6⟩
   have hrr:(rightT t && rightT f.tree)=true:=by rw [HRT.out,H6.out];rfl
   rw [if_pos hrr]
   have HMEM:Hid (∀ r∈s,r∈told):=Lib.hid (fun r hr=>H10.out r ((chg_iff HRT.out H6.out r).1 ((hs1 hrr).1.mem_iff.1 hr)))
   have HLEN:Hid (∀ r∈s,r.length≤t.bulk+f.tree.bulk):=Lib.hid (fun r hr=>look_lenH ((chg_iff HRT.out H6.out r).1 ((hs1 hrr).1.mem_iff.1 hr)))
   have HSL9:=Lib.hid (show s.length≤t.bulk+f.tree.bulk by rw [(hs1 hrr).1.length_eq];exact chg_lenH t f.tree)
   have hsl9:=HSL9.out
   have HC9:=Lib.hid hC9
   have HB6:=Lib.hid (HR5.out.trans (hq6.mono HR5.out.size))
   have hb6:=HA0.out.trans (HB6.out.mono hs0)
   have HB6w:=Lib.hid hb6
   obtain ⟨A8,c8,rfl,hc8,hC8⟩:=Kd.N_reads (Kd.N_below HN5.out hq6)
   have HC8:=Lib.hid hC8
   clear hC9 hC8 hq6 hs1 hrr HX5 HNB HTX HC5 HN5 hb6 H1 H5
   go_wp2_with fail
   go_loopw [23] (fun i wz=>∃ m:Nat,m≤s.length∧i=.int .i64 m∧Hid (Below w6.heap.size w6 wz)) (fun i _=>s.length - (RowKit.intOf i).toNat)
   case atStart=>exact ⟨0,by omega,rfl,Lib.hid (Below.refl _ _)⟩
   case round =>
    obtain ⟨m,hm,rfl,HBZ⟩:=hrel
    by_cases q1:m<s.length
    ·obtain ⟨ad,A1,c1,rfl,hx,hc1,hC1⟩:=path_atH HC9.out m q1
     have hin:=HMEM.out s[m] (List.getElem_mem q1)
     have hrl:=HLEN.out s[m] (List.getElem_mem q1)
     generalize s[m]=r at *
     have HIN:=Lib.hid hin
     have HC10:=Lib.hid hC1
     have HXA:=Lib.hid hx
     have g1':(m:Int)<(s.length:Int):=by omega
     clear hin hC1 hx
     go_wp2_with fail
     go_loopw [24,25] (fun b j wr2=>∃ (n:Nat) (bb:Bool),n≤told.length∧b=.bool bb∧j=.int .i64 n∧Hid (bb=true↔r∈told.take n)∧Hid (Below w6.heap.size w6 wr2)) (fun _ j _=>told.length - (RowKit.intOf j).toNat)
     case atStart=>exact ⟨0,false,by omega,rfl,rfl,Lib.hid (by simp),HBZ⟩
     case round =>
      obtain ⟨n,bb,hn,rfl,rfl,HBI,HB2⟩:=hrel
      obtain ⟨wr2,rfl⟩:∃ W,W=wr:=⟨_,rfl⟩
      by_cases q2:n<told.length
      ·obtain ⟨ad2,A2,c2,rfl,hy,hc2,hC2⟩:=path_atH HC8.out n q2
       have HTM:=Lib.hid (take_memH (r:=r) q2)
       generalize told[n]=q at *
       have g2':(n:Int)<(told.length:Int):=by omega
       have y0:=(HB2.out.cell (World.block_lt_of_cell? _ _ HXA.out)).trans HXA.out
       have y1:=(HB2.out.cell (World.block_lt_of_cell? _ _ hy)).trans hy
       have HC1:=Lib.hid (Kd.C_below HC10.out HB2.out)
       have HC2:=Lib.hid (Kd.C_below hC2 HB2.out)
       clear hy hC2
       cases bb
       ·go_wp2_with fail
        refine start_ (n:=13) (S:=fun w'=>w'.cell? (ad.add m)=some (.slice A1 r.length c1)∧w'.cell? (ad2.add n)=some (.slice A2 q.length c2)) (ds:=[]) (bmT 13 0) (by kernel_rfl) rfl rfl ⟨y0,y1⟩ (fun hHeld => ?_)
        refine pA 0 135 (bmT 13 1) ?_
        refine pA 1 136 (bmT 13 3) ?_
        refine pA 2 137 (bmT 13 7) ?_
        refine pA 3 138 (bmT 13 15) ?_
        refine pA 4 139 (bmT 13 31) ?_
        refine pA 6 141 (bmT 13 95) ?_
        refine pA 7 142 (bmT 13 223) ?_
        refine pA 8 143 (bmT 13 479) ?_
        refine tA 5 140 (bmT 13 511) hHeld ?_ (hy:=by
         rintro w' ⟨s0,s1⟩
         go_simp
         with_reducible rfl)
        refine tA 9 144 (bmT 13 1023) hHeld ?_ (hy:=by
         rintro w' ⟨s0,s1⟩
         go_simp
         with_reducible rfl)
        refine eA 10 145 (bmT 13 2047) (fun K hK => ?_)
        refine gA Tryz.func19 #[.slice A1 r.length c1,.slice A2 q.length c2] ?_
        refine (P.rsame_calls A1 c1 r A2 c2 q _ (Kd.C_below HC1.out (bdrew (Below.refl wr2.heap.size wr2))) hc1 (Kd.C_below HC2.out (bdrew (Below.refl wr2.heap.size wr2))) hc2 (by omega)).mono ?_
        rintro e u8 ⟨rfl,nn,rfl⟩
        have hb8:=bdrewN (bdrew (Below.refl wr2.heap.size wr2)) nn
        refine ⟨_,rfl,?_⟩
        refine hK.out _ _ ⟨(hb8.cell (World.block_lt_of_cell? _ _ y0)).trans y0,(hb8.cell (World.block_lt_of_cell? _ _ y1)).trans y1⟩ (fun hHeld => ?_)
        refine nA 145 ?_
        refine pA 11 146 (bmT 13 4095) ?_
        refine pA 12 24 (bmT 13 8191) ?_
        refine done_ (by kernel_rfl) ?_
        have HNX:Hid (P.sameB r q=true↔r∈told.take (n+1)):=Lib.hid (by
         rw [HTM.out]
         have h:=HBI.out
         constructor
         ·intro h2;exact .inr (by simpa [P.sameB] using h2)
         ·rintro (h2 | h2)
          ·exact absurd (h.2 h2) (by decide)
          ·rw [h2];simp [P.sameB])
        have HBX:=Lib.hid (HB2.out.trans (hb8.mono HB2.out.size))
        go_wp2_with fail
        go_roundw
        case rel=>exact ⟨n+1,P.sameB r q,by omega,rfl,by go_num,HNX,by first | exact HBX | exact Lib.hid (bdrewN HB2.out _)⟩
        case measure=>simp [RowKit.intOf];omega
       ·go_wp2_with fail
        refine start_ (n:=13) (S:=fun w'=>w'.cell? (ad.add m)=some (.slice A1 r.length c1)∧w'.cell? (ad2.add n)=some (.slice A2 q.length c2)) (ds:=[]) (bmT 13 0) (by kernel_rfl) rfl rfl ⟨y0,y1⟩ (fun hHeld => ?_)
        refine pA 0 135 (bmT 13 1) ?_
        refine pA 1 136 (bmT 13 3) ?_
        refine oA 2 137 (bmT 13 7) ?_
        refine oA 3 138 (bmT 13 15) ?_
        refine oA 4 139 (bmT 13 31) ?_
        refine oA 5 140 (bmT 13 63) ?_
        refine oA 6 141 (bmT 13 127) ?_
        refine oA 7 142 (bmT 13 255) ?_
        refine oA 8 143 (bmT 13 511) ?_
        refine oA 9 144 (bmT 13 1023) ?_
        refine oA 10 145 (bmT 13 2047) ?_
        refine pA 11 146 (bmT 13 4095) ?_
        refine pA 12 24 (bmT 13 8191) ?_
        refine done_ (by kernel_rfl) ?_
        have HNX:Hid (true=true↔r∈told.take (n+1)):=Lib.hid (by
         rw [HTM.out]
         exact ⟨fun h=>.inl (HBI.out.1 (by trivial)),fun _=>rfl⟩)
        have HBX:=Lib.hid (bdrew HB2.out)
        go_wp2_with fail
        go_roundw
        case rel=>exact ⟨n+1,true,by omega,rfl,by go_num,HNX,by first | exact HBX | exact Lib.hid (bdrewN HB2.out _)⟩
        case measure=>simp [RowKit.intOf];omega
      ·obtain rfl:n=told.length:=by omega
       have hbb:bb=true:=HBI.out.2 (by rw [List.take_length];exact HIN.out)
       subst hbb
       go_wp2_with fail
       go_roundw
       case rel=>exact ⟨m+1,by omega,by go_num,HB2⟩
       case measure=>simp [RowKit.intOf];omega
    ·obtain rfl:m=s.length:=by omega
     have hbz:=HB6w.out.trans (HBZ.out.mono HB6w.out.size)
     go_wp2_with fail
     go_ret
     exact ⟨rfl,hbz⟩
end Go.Proofs.YthlcjjhfkldmhaaGreatDoor.G
end
end
