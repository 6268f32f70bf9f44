import Derived.Test.YtdnhjnlhmfajnaaGreatDoorTAhead
import Derived.Test.YtdnhjnlhmfajnaaGreatDoorTChanged
import Derived.Test.YtdnhjnlhmfajnaaGreatDoorSq
import Derived.Test.YtdnhjnlhmfajnaaGreatDoorTLives
import Derived.Test.YtdnhjnlhmfajnaaGreatDoorQN
import Derived.Test.YtdnhjnlhmfajnaaGreatDoorQShare
import Derived.Test.YtdnhjnlhmfajnaaGreatDoorKit
import Derived.Test.YtdnhjnlhmfajnaaGreatDoorTPList
import Derived.Test.YtdnhjnlhmfajnaaGreatDoorTDir
import Derived.Test.YtdnhjnlhmfajnaaGreatDoorTRSame
set_option linter.unusedVariables false
set_option linter.unusedSimpArgs false
section
namespace Go.Proofs.YtdnhjnlhmfajnaaGreatDoor.G
open Go.RowKit Go.Lib Go.Proofs.YtdnhjnlhmfajnaaGreatDoorW.PrintWords Go.Proofs.YtdnhjnlhmfajnaaGreatDoorW.PrintLast
set_option linter.unusedVariables false
set_option linter.unusedSimpArgs false
theorem ch_all {rec:File→List ByteArray→Option (List ByteArray)} {p:List ByteArray}:∀ {l:List File} {prev:Option ByteArray},wrongL rec p prev l=none→∀ x∈l,nameB x.name.data.toList=true∧aloneB x=true∧rec x (p++[x.name])=none
 | [],prev,h,x,hx=>by cases hx
 | y :: l,prev,h,x,hx=>by
  rw [wrongL] at h
  split at h
  ·cases h
  ·rename_i hb
   split at h
   ·cases h
   ·rename_i hr
    rcases List.mem_cons.1 hx with rfl | hx
    ·have hb:=Bool.eq_false_iff.2 hb
     unfold badF at hb
     simp only [Bool.or_eq_false_iff,Bool.not_eq_false'] at hb
     exact ⟨hb.1.1.1,hb.2,hr⟩
    ·exact ch_all h x hx
theorem alone_files {x:File} (ha:aloneB x=true):x.kind=1∨x.files=[]:=by
 unfold aloneB at ha
 split at ha
 ·rename_i h;exact .inl h
 ·refine .inr ?_
  split at ha
  ·exact List.length_eq_zero_iff.1 (of_decide_eq_true ha)
  ·split at ha
   ·rw [Bool.and_eq_true] at ha
    exact List.length_eq_zero_iff.1 (of_decide_eq_true ha.1)
   ·cases ha
theorem ch_ok:∀ (n:Nat) (f:File) (p:List ByteArray),f.bulk≤n→wrongN n f p=none→∀ z∈preF p f,aloneB z.2=true∧∃ r,z.1=p++r∧∀ m∈r,nameB m.data.toList=true
 | 0,f,p,hn,_,z,_=>by have:=bulk_eq f;omega
 | n+1,f,p,hn,h,z,hz=>by
  replace h:wrongL (wrongN n) p none f.files=none:=h
  obtain ⟨x,hx,hzx⟩:=pr_mem.1 hz
  obtain ⟨h1,h2,h3⟩:=ch_all h x hx
  rcases hzx with rfl | hzx
  ·exact ⟨h2,[x.name],rfl,fun m hm=>by rw [List.mem_singleton.1 hm];exact h1⟩
  ·have hb:=bulk_child hx
   obtain ⟨h4,r,h5,h6⟩:=ch_ok n x (p++[x.name]) (by omega) h3 z hzx
   refine ⟨h4,x.name :: r,by rw [h5,List.append_assoc];rfl,fun m hm => ?_⟩
   rcases List.mem_cons.1 hm with rfl | hm
   ·exact h1
   ·exact h6 m hm
theorem ch_right {t:File} (h:rightT t=true):t.kind=1∧SortF t∧∀ z∈preF [] t,(z.2.kind=1∨z.2.files=[])∧(∀ m∈z.1,nameB m.data.toList=true)∧goP t z.1=(0,some z.2)∧z.1≠[]:=by
 have hs:=right_sort h
 unfold rightT checkR at h
 split at h
 ·rename_i hk
  have hw:wrongN t.bulk t []=none:=by
   cases hw:wrongN t.bulk t [] with
   | none=>rfl
   | some b=>rw [hw] at h;simp [checkO] at h
  have ho:=ch_ok t.bulk t [] (Nat.le_refl _) hw
  refine ⟨hk.1,hs,fun z hz => ?_⟩
  obtain ⟨h1,r,h2,h3⟩:=ho z hz
  obtain ⟨m,s,h4,h5⟩:=pr_goes t.bulk t [] z (Nat.le_refl _) hs (fun y hy=>alone_files (ho y hy).1) (.inl hk.1) hz
  rw [List.nil_append] at h2 h4
  exact ⟨alone_files h1,by rw [h2];exact h3,by rw [h4];exact h5,by rw [h4];simp⟩
 ·simp at h
theorem ch_list:∀ (q:List ByteArray),(shownS q).data.toList=(q.map fun n=>47 :: n.data.toList).flatten:=by
 have h:∀ (q:List ByteArray) (s:ByteArray),(q.foldl (fun s n=>s++(⟨#[47]⟩++n)) s).data.toList=s.data.toList++(q.map fun n=>47 :: n.data.toList).flatten:=by
  intro q
  induction q with
  | nil=>intro s;simp
  | cons n q ih=>intro s;rw [List.foldl_cons,ih];simp [ByteArray.data_append]
 intro q
 unfold shownS
 rw [h]
 rfl
theorem ch_no47 {n:ByteArray} (h:nameB n.data.toList=true):(47:UInt8) ∉ n.data.toList:=by
 intro hm
 unfold nameB at h
 simp only [Bool.and_eq_true,Bool.not_eq_true',List.any_eq_false] at h
 exact h.2 47 hm (by decide)
theorem ch_cut {a b P Q:List UInt8} (ha:(47:UInt8) ∉ a) (hb:(47:UInt8) ∉ b) (hP:P=[]∨∃ r,P=47 :: r) (hQ:Q=[]∨∃ r,Q=47 :: r) (h:a++P=b++Q):a=b∧P=Q:=by
 induction a generalizing b with
 | nil =>
  cases b with
  | nil=>exact ⟨rfl,h⟩
  | cons y b =>
   rcases hP with rfl | ⟨r,rfl⟩
   ·simp at h
   ·simp only [List.nil_append,List.cons_append,List.cons.injEq] at h
    exact absurd (by rw [← h.1];exact List.mem_cons_self) hb
 | cons x a ih =>
  cases b with
  | nil =>
   rcases hQ with rfl | ⟨r,rfl⟩
   ·simp at h
   ·simp only [List.nil_append,List.cons_append,List.cons.injEq] at h
    exact absurd (by rw [h.1];exact List.mem_cons_self) ha
  | cons y b =>
   simp only [List.cons_append,List.cons.injEq] at h
   obtain ⟨h1,h2⟩:=ih (fun h=>ha (List.mem_cons_of_mem _ h)) (fun h=>hb (List.mem_cons_of_mem _ h)) h.2
   exact ⟨by rw [h.1,h1],h2⟩
theorem ch_flat:∀ (p q:List ByteArray),(∀ n∈p,(47:UInt8) ∉ n.data.toList)→(∀ n∈q,(47:UInt8) ∉ n.data.toList)→(p.map fun n=>47 :: n.data.toList).flatten=(q.map fun n=>47 :: n.data.toList).flatten→p=q
 | [],[],_,_,_=>rfl
 | [],y :: q,_,_,h=>by simp at h
 | x :: p,[],_,_,h=>by simp at h
 | x :: p,y :: q,hp,hq,h=>by
  simp only [List.map_cons,List.flatten_cons,List.cons_append,List.cons.injEq,true_and] at h
  have hh:∀ l:List ByteArray,(l.map fun n=>47 :: n.data.toList).flatten=[]∨∃ r,(l.map fun n=>(47:UInt8) :: n.data.toList).flatten=47 :: r:=fun l=>by
   cases l with
   | nil=>exact .inl rfl
   | cons z l=>exact .inr ⟨_,rfl⟩
  obtain ⟨h1,h2⟩:=ch_cut (hp x List.mem_cons_self) (hq y List.mem_cons_self) (hh p) (hh q) h
  have hx:x=y:=ByteArray.ext (Array.toList_inj.1 h1)
  rw [hx,ch_flat p q (fun n h=>hp n (List.mem_cons_of_mem _ h)) (fun n h=>hq n (List.mem_cons_of_mem _ h)) h2]
theorem shown_inj {p q:List ByteArray} (hp:∀ m∈p,nameB m.data.toList=true) (hq:∀ m∈q,nameB m.data.toList=true) (h:shownS p=shownS q):p=q:=by
 refine ch_flat p q (fun n hn=>ch_no47 (hp n hn)) (fun n hn=>ch_no47 (hq n hn)) ?_
 rw [← ch_list,← ch_list,h]
theorem lookQ_cons (y:ByteArray×(Int×ByteArray)) (q:SeenQ) (s:ByteArray):lookQ (y :: q) s=if y.1=s then some y.2 else lookQ q s:=by
 unfold lookQ
 rw [List.find?_cons]
 by_cases h:y.1=s
 ·rw [if_pos h,show decide (y.1=s)=true from decide_eq_true h];rfl
 ·rw [if_neg h,show decide (y.1=s)=false from decide_eq_false h]
theorem lookQ_map1 {s s':ByteArray} (x:Int×ByteArray) (h:s'≠s):∀ q:SeenQ,lookQ (q.map fun y=>if y.1=s then (s,x) else y) s'=lookQ q s'
 | []=>rfl
 | y :: q=>by
  rw [List.map_cons,lookQ_cons,lookQ_cons,lookQ_map1 x h q]
  by_cases h1:y.1=s
  ·rw [if_pos h1]
   simp only
   rw [if_neg (Ne.symm h),if_neg fun e=>h (e.symm.trans h1)]
  ·rw [if_neg h1]
theorem lookQ_map2 (s:ByteArray) (x:Int×ByteArray):∀ q:SeenQ,(lookQ q s).isSome=true→lookQ (q.map fun y=>if y.1=s then (s,x) else y) s=some x
 | [],h=>by cases h
 | y :: q,h=>by
  rw [List.map_cons,lookQ_cons]
  rw [lookQ_cons] at h
  by_cases h1:y.1=s
  ·rw [if_pos h1]
   simp only [if_true]
  ·rw [if_neg h1,if_neg h1]
   rw [if_neg h1] at h
   exact lookQ_map2 s x q h
theorem lookQ_set (q:SeenQ) (s s':ByteArray) (x:Int×ByteArray):lookQ (setQ q s x) s'=if s'=s then some x else lookQ q s':=by
 unfold setQ
 by_cases hs:(lookQ q s).isSome=true
 ·rw [if_pos hs]
  by_cases h2:s'=s
  ·rw [if_pos h2,h2];exact lookQ_map2 s x q hs
  ·rw [if_neg h2];exact lookQ_map1 x h2 q
 ·rw [if_neg hs]
  have go:∀ q:SeenQ,(lookQ q s).isSome≠true→lookQ (q++[(s,x)]) s'=if s'=s then some x else lookQ q s':=by
   intro q
   induction q with
   | nil =>
    intro _
    rw [List.nil_append,lookQ_cons]
    by_cases h2:s'=s
    ·rw [if_pos h2,if_pos h2.symm]
    ·rw [if_neg h2,if_neg fun e=>h2 e.symm]
   | cons y q ih =>
    intro h
    rw [lookQ_cons] at h
    by_cases h1:y.1=s
    ·rw [if_pos h1] at h;exact absurd rfl h
    ·rw [if_neg h1] at h
     rw [List.cons_append,lookQ_cons,lookQ_cons,ih h]
     by_cases h2:s'=s
     ·rw [if_pos h2,if_pos h2,if_neg fun e=>h1 (e.trans h2)]
     ·rw [if_neg h2,if_neg h2]
  exact go q hs
theorem lookQ_del (q:SeenQ) (s s':ByteArray):lookQ (delQ q s) s'=if s'=s then none else lookQ q s':=by
 unfold lookQ delQ
 induction q with
 | nil=>simp
 | cons y q ih =>
  by_cases h1:y.1=s
  ·rw [List.filter_cons_of_neg (by simpa using h1),ih]
   by_cases h2:s'=s
   ·rw [if_pos h2,if_pos h2]
   ·rw [if_neg h2,if_neg h2,List.find?_cons,show decide (y.1=s')=false from decide_eq_false fun e=>h2 (e.symm.trans h1)]
  ·rw [List.filter_cons_of_pos (by simpa using h1),List.find?_cons,List.find?_cons]
   by_cases h3:y.1=s'
   ·have h2:¬ s'=s:=fun e=>h1 (h3.trans e)
    simp [h3,h2]
   ·rw [show decide (y.1=s')=false from decide_eq_false h3]
    exact ih
theorem seenOf_look (l:List (List ByteArray×File)) (s:ByteArray) (x:Int×ByteArray) (hd:∀ y∈l,∀ z∈l,shownS y.1=shownS z.1→y=z):lookQ (seenOf l) s=some x↔∃ y∈l,shownS y.1=s∧(y.2.kind,y.2.data)=x:=by
 have go:∀ (l:List (List ByteArray×File)) (q:SeenQ),lookQ (l.foldl (fun q y=>setQ q (shownS y.1) (y.2.kind,y.2.data)) q) s=match l.reverse.find? (fun y=>decide (shownS y.1=s)) with | some y=>some (y.2.kind,y.2.data) | none=>lookQ q s:=by
  intro l
  induction l with
  | nil=>intro q;rfl
  | cons y l ih =>
   intro q
   rw [List.foldl_cons,ih,List.reverse_cons,List.find?_append]
   cases hf:l.reverse.find? (fun y=>decide (shownS y.1=s)) with
   | some z=>simp
   | none =>
    simp only [Option.none_or,List.find?_cons,List.find?_nil]
    rw [lookQ_set]
    by_cases h:shownS y.1=s
    ·rw [if_pos h.symm];simp [h]
    ·rw [if_neg fun e=>h e.symm];simp [h]
 unfold seenOf
 rw [go l []]
 cases hf:l.reverse.find? (fun y=>decide (shownS y.1=s)) with
 | some z =>
  have hz:z∈l:=List.mem_reverse.1 (List.mem_of_find?_eq_some hf)
  have hzs:shownS z.1=s:=by simpa using List.find?_some hf
  constructor
  ·intro h
   injection h with h
   exact ⟨z,hz,hzs,h⟩
  ·rintro ⟨y,hy,hys,rfl⟩
   rw [hd y hy z hz (hys.trans hzs.symm)]
 | none =>
  constructor
  ·intro h;cases h
  ·rintro ⟨y,hy,hys,rfl⟩
   have:=List.find?_eq_none.1 hf y (List.mem_reverse.2 hy)
   exact absurd hys (by simpa using this)
theorem chgB_look (q:SeenQ) (l:List (List ByteArray×File)) (s:ByteArray):lookQ (chgB q l).1 s=if ∃ y∈l,shownS y.1=s then none else lookQ q s:=by
 have go:∀ (l:List (List ByteArray×File)) (st:SeenQ×List (List ByteArray)),lookQ (l.foldl chgStep st).1 s=if ∃ y∈l,shownS y.1=s then none else lookQ st.1 s:=by
  intro l
  induction l with
  | nil=>intro st;simp
  | cons y l ih =>
   intro st
   rw [List.foldl_cons,ih]
   by_cases h1:∃ z∈l,shownS z.1=s
   ·rw [if_pos h1,if_pos (by obtain ⟨z,hz,h⟩:=h1;exact ⟨z,List.mem_cons_of_mem _ hz,h⟩)]
   ·rw [if_neg h1]
    simp only [chgStep]
    rw [lookQ_del]
    by_cases h2:s=shownS y.1
    ·rw [if_pos h2,if_pos ⟨y,List.mem_cons_self,h2.symm⟩]
    ·rw [if_neg h2,if_neg]
     rintro ⟨z,hz,h⟩
     rcases List.mem_cons.1 hz with rfl | hz
     ·exact h2 h.symm
     ·exact h1 ⟨z,hz,h⟩
 exact go l (q,[])
theorem chgB_out (q:SeenQ):∀ (l:List (List ByteArray×File)),l.Pairwise (fun a b=>shownS a.1≠shownS b.1)→∀ p,p∈(chgB q l).2↔∃ y∈l,y.1=p∧lookQ q (shownS y.1)≠some (y.2.kind,y.2.data):=by
 have go:∀ (l:List (List ByteArray×File)) (st:SeenQ×List (List ByteArray)),l.Pairwise (fun a b=>shownS a.1≠shownS b.1)→∀ p,p∈(l.foldl chgStep st).2↔p∈st.2∨∃ y∈l,y.1=p∧lookQ st.1 (shownS y.1)≠some (y.2.kind,y.2.data):=by
  intro l
  induction l with
  | nil=>intro st _ p;simp
  | cons y l ih =>
   intro st hp p
   rw [List.pairwise_cons] at hp
   rw [List.foldl_cons,ih _ hp.2]
   have hsame:∀ z∈l,lookQ (chgStep st y).1 (shownS z.1)=lookQ st.1 (shownS z.1):=fun z hz=>by
    simp only [chgStep]
    rw [lookQ_del,if_neg fun e=>hp.1 z hz e.symm]
   constructor
   ·rintro (h | ⟨z,hz,h1,h2⟩)
    ·simp only [chgStep] at h
     split at h
     ·exact .inl h
     ·rename_i hne
      rcases List.mem_append.1 h with h | h
      ·exact .inl h
      ·exact .inr ⟨y,List.mem_cons_self,(List.mem_singleton.1 h).symm,hne⟩
    ·rw [hsame z hz] at h2
     exact .inr ⟨z,List.mem_cons_of_mem _ hz,h1,h2⟩
   ·rintro (h | ⟨z,hz,h1,h2⟩)
    ·refine .inl ?_
     simp only [chgStep]
     split
     ·exact h
     ·exact List.mem_append_left _ h
    ·rcases List.mem_cons.1 hz with rfl | hz
     ·refine .inl ?_
      simp only [chgStep]
      rw [if_neg h2]
      exact List.mem_append_right _ (by rw [h1];exact List.mem_singleton.2 rfl)
     ·exact .inr ⟨z,hz,h1,by rw [hsame z hz];exact h2⟩
 intro l hl p
 have:=go l (q,[]) hl p
 simpa [chgB] using this
theorem chgR_iff (q:SeenQ) (o:List (List ByteArray)) (l:List (List ByteArray×File)) (p:List ByteArray):p∈chgR q o l↔p∈o∨∃ y∈l,y.1=p∧(lookQ q (shownS y.1)).isSome=true:=by
 refine ⟨chgR_mem q o l p,?_⟩
 unfold chgR
 induction l generalizing o with
 | nil=>rintro (h | ⟨y,hy,_⟩);exact h;cases hy
 | cons y l ih =>
  intro h
  rw [List.foldl_cons]
  refine ih _ ?_
  rcases h with h | ⟨z,hz,h1,h2⟩
  ·refine .inl ?_
   split
   ·exact List.mem_append_left _ h
   ·exact h
  ·rcases List.mem_cons.1 hz with rfl | hz
   ·exact .inl (by rw [if_pos h2];exact List.mem_append_right _ (by rw [h1];exact List.mem_singleton.2 rfl))
   ·exact .inr ⟨z,hz,h1,h2⟩
theorem pr_apart {t:File} (h:rightT t=true):(∀ y∈preF [] t,∀ z∈preF [] t,shownS y.1=shownS z.1→y=z)∧(preF [] t).Pairwise (fun a b=>shownS a.1≠shownS b.1):=by
 obtain ⟨_,hs,hz⟩:=ch_right h
 refine ⟨fun y hy z hz' e => ?_,?_⟩
 ·have h1:=shown_inj (hz y hy).2.1 (hz z hz').2.1 e
  have h2:=(hz y hy).2.2.1
  rw [h1,(hz z hz').2.2.1] at h2
  injection h2 with _ h2
  injection h2 with h2
  exact Prod.ext h1 h2.symm
 ·have hp:=(pr_sorted t.bulk t [] (Nat.le_refl _) hs).1
  refine hp.imp_of_mem fun {a b} ha hb hlt e => ?_
  rw [shown_inj (hz a ha).2.1 (hz b hb).2.1 e,cmp_self] at hlt
  omega
theorem chg_iff {t u:File} (ht:rightT t=true) (hu:rightT u=true) (p:List ByteArray):p∈chgL t u↔lookK t p≠lookK u p:=by
 obtain ⟨hkt,hst,hzt⟩:=ch_right ht
 obtain ⟨hku,hsu,hzu⟩:=ch_right hu
 obtain ⟨hdt,hpt⟩:=pr_apart ht
 obtain ⟨hdu,hpu⟩:=pr_apart hu
 have inT:∀ {r y},goP t r=(0,some y)→r≠[]→(r,y)∈preF [] t:=fun {r y} h h0=>by
  cases r with
  | nil=>exact absurd rfl h0
  | cons m s=>exact go_pr s m t y [] 0 hst h
 have inU:∀ {r y},goP u r=(0,some y)→r≠[]→(r,y)∈preF [] u:=fun {r y} h h0=>by
  cases r with
  | nil=>exact absurd rfl h0
  | cons m s=>exact go_pr s m u y [] 0 hsu h
 unfold chgL
 rw [chgR_iff,chgB_out _ _ hpu]
 constructor
 ·rintro (⟨y,hy,rfl,h⟩ | ⟨y,hy,rfl,h⟩) e
  ·rw [look_go (hzu y hy).2.2.1] at e
   obtain ⟨z,hz,hzx⟩:=look_some e
   refine h ((seenOf_look _ _ _ hdt).2 ⟨(y.1,z),inT hz (hzu y hy).2.2.2,rfl,hzx.symm⟩)
  ·rw [chgB_look] at h
   split at h
   ·cases h
   ·rename_i hno
    rw [look_go (hzt y hy).2.2.1] at e
    obtain ⟨z,hz,hzx⟩:=look_some e.symm
    exact hno ⟨(y.1,z),inU hz (hzt y hy).2.2.2,rfl⟩
 ·intro hne
  have h0:p≠[]:=by
   rintro rfl
   refine hne ?_
   rw [look_go (k:=0) (y:=t) (by rw [goP]),look_go (k:=0) (y:=u) (by rw [goP]),hkt,hku]
   have hd:∀ {f:File},rightT f=true→f.data=⟨#[]⟩:=fun {f} h=>by
    unfold rightT checkR at h
    split at h
    ·rename_i hk
     have h1:=hk.2.2
     rw [List.isEmpty_iff,Lib.toList_data] at h1
     exact ByteArray.ext (Array.toList_inj.1 h1)
    ·simp at h
   rw [hd ht,hd hu]
  cases hlu:lookK u p with
  | some x =>
   obtain ⟨y,hy,hyx⟩:=look_some hlu
   refine .inl ⟨(p,y),inU hy h0,rfl,fun e=>hne ?_⟩
   obtain ⟨z,hz,hzs,hzx⟩:=(seenOf_look _ _ _ hdt).1 e
   have hzp:z.1=p:=shown_inj (hzt z hz).2.1 (hzu _ (inU hy h0)).2.1 hzs
   rw [hlu,hyx,← hzp,look_go (hzt z hz).2.2.1,hzx]
  | none =>
   cases hlt:lookK t p with
   | none=>exact absurd (hlt.trans hlu.symm) hne
   | some x =>
    obtain ⟨y,hy,hyx⟩:=look_some hlt
    refine .inr ⟨(p,y),inT hy h0,rfl,?_⟩
    rw [chgB_look,if_neg]
    ·rw [(seenOf_look _ _ (y.kind,y.data) hdt).2 ⟨(p,y),inT hy h0,rfl,rfl⟩]
     rfl
    ·rintro ⟨z,hz,hzs⟩
     have hzp:z.1=p:=shown_inj (hzu z hz).2.1 (hzt _ (inT hy h0)).2.1 hzs
     rw [← hzp,look_go (hzu z hz).2.2.1] at hlu
     cases hlu
end Go.Proofs.YtdnhjnlhmfajnaaGreatDoor.G
end
section
section
namespace Go.Proofs.YtdnhjnlhmfajnaaGreatDoor.G
open Go.RowKit Go.Lib Go.Proofs.YtdnhjnlhmfajnaaGreatDoorW.PrintWords Go.Proofs.YtdnhjnlhmfajnaaGreatDoorW.PrintLast
set_option linter.unusedVariables false
set_option linter.unusedSimpArgs false
def findR:File→List ByteArray→File×Int
 | t,[]=>(t,0)
 | t,n :: p=>if t.kind=1 then (match t.files.find? (nameIs n) with | some x=>findR x p | none=>(zeroF,31)) else (zeroF,32)
end Go.Proofs.YtdnhjnlhmfajnaaGreatDoor.G
end
section
namespace Go.Proofs.YtdnhjnlhmfajnaaGreatDoor.G
open Go.RowKit Go.Lib Go.Proofs.YtdnhjnlhmfajnaaGreatDoorW.PrintWords Go.Proofs.YtdnhjnlhmfajnaaGreatDoorW.PrintLast
set_option linter.unusedVariables false
set_option linter.unusedSimpArgs false
theorem go_findR:∀ (p:List ByteArray) (t:File),SortF t→goP t p=if (findR t p).2=0 then (0,some (findR t p).1) else ((findR t p).2,none)
 | [],t,hs=>by rw [goP,findR];rfl
 | n :: p,t,hs=>by
  rw [goP_find hs,findR]
  split
  ·cases hx:t.files.find? (nameIs n) with
   | none=>rfl
   | some x =>
    simp only
    rw [SortF_eq] at hs
    exact go_findR p x (SortL_mem.1 hs.2 x (List.mem_of_find?_eq_some hx))
  ·rfl
end Go.Proofs.YtdnhjnlhmfajnaaGreatDoor.G
end
section
namespace Go.Proofs.YtdnhjnlhmfajnaaGreatDoor.G
open Go.RowKit Go.Lib Go.Proofs.YtdnhjnlhmfajnaaGreatDoorW.PrintWords Go.Proofs.YtdnhjnlhmfajnaaGreatDoorW.PrintLast
set_option linter.unusedVariables false
set_option linter.unusedSimpArgs false
def strictP:List (List ByteArray)→Prop:=List.Pairwise fun x y=>cmpP x y<0
def pathsOf (t:File):List (List ByteArray):=(preF [] t).map (·.1)
theorem cmp_irr {p:List ByteArray} (h:cmpP p p<0):False:=by rw [cmp_self] at h;omega
theorem cmp_lt {a b c:List ByteArray} (h1:cmpP a b<0) (h2:cmpP b c<0):cmpP a c<0:=cmp_lt_trans h1 (by omega)
theorem strict_eq:∀ {s r:List (List ByteArray)},strictP s→strictP r→(∀ p,p∈s↔p∈r)→s=r
 | [],[],_,_,_=>rfl
 | [],y :: r,_,_,h=>by have:=(h y).2 List.mem_cons_self;cases this
 | x :: s,[],_,_,h=>by have:=(h x).1 List.mem_cons_self;cases this
 | x :: s,y :: r,hs,hr,h=>by
  obtain ⟨hs1,hs2⟩:=List.pairwise_cons.1 hs
  obtain ⟨hr1,hr2⟩:=List.pairwise_cons.1 hr
  have hxy:x=y:=by
   rcases List.mem_cons.1 ((h x).1 List.mem_cons_self) with e | e
   ·exact e
   ·rcases List.mem_cons.1 ((h y).2 List.mem_cons_self) with e2 | e2
    ·exact e2.symm
    ·exact absurd (cmp_lt (hs1 y e2) (hr1 x e)) cmp_irr
  subst hxy
  rw [strict_eq hs2 hr2 fun p=>⟨fun hp=>(List.mem_cons.1 ((h p).1 (List.mem_cons_of_mem _ hp))).resolve_left fun e=>by subst e;exact cmp_irr (hs1 _ hp),fun hp=>(List.mem_cons.1 ((h p).2 (List.mem_cons_of_mem _ hp))).resolve_left fun e=>by subst e;exact cmp_irr (hr1 _ hp)⟩]
theorem strict_nodup {s:List (List ByteArray)} (h:strictP s):s.Nodup:=h.imp fun {a b} hab e=>by subst e;exact cmp_irr hab
theorem sorted_strict {s:List (List ByteArray)} (h:sortedP s) (hn:s.Nodup):strictP s:=by
 have:=List.Pairwise.and h hn
 refine this.imp fun {a b} hab => ?_
 rcases Int.lt_or_le (cmpP a b) 0 with h1 | h1
 ·exact h1
 ·exact absurd (cmp_zero.1 (by have:=hab.1;omega)) hab.2
theorem paths_strict {t:File} (h:rightT t=true):strictP (pathsOf t):=by
 unfold strictP pathsOf
 rw [List.pairwise_map]
 exact (pr_sorted t.bulk t [] (Nat.le_refl _) (ch_right h).2.1).1
theorem chgB_sub (q:SeenQ) (l:List (List ByteArray×File)):List.Sublist (chgB q l).2 (l.map (·.1)):=by
 have go:∀ (l:List (List ByteArray×File)) (st:SeenQ×List (List ByteArray)),List.Sublist (l.foldl chgStep st).2 (st.2++l.map (·.1)):=by
  intro l
  induction l with
  | nil=>intro st;simp
  | cons y l ih =>
   intro st
   rw [List.foldl_cons]
   refine (ih (chgStep st y)).trans ?_
   simp only [chgStep,List.map_cons]
   split
   ·exact List.Sublist.append (List.Sublist.refl _) (List.sublist_cons_self _ _)
   ·rw [List.append_assoc];exact List.Sublist.refl _
 have:=go l (q,[])
 simpa [chgB] using this
theorem chgR_eq (q:SeenQ) (o:List (List ByteArray)) (l:List (List ByteArray×File)):chgR q o l=o++(l.filter fun y=>(lookQ q (shownS y.1)).isSome).map (·.1):=by
 unfold chgR
 induction l generalizing o with
 | nil=>simp
 | cons y l ih =>
  rw [List.foldl_cons,ih]
  by_cases h:(lookQ q (shownS y.1)).isSome=true
  ·rw [if_pos h,List.filter_cons_of_pos (by simpa using h),List.map_cons,List.append_assoc];rfl
  ·rw [if_neg h,List.filter_cons_of_neg (by simpa using h)]
theorem chg_nodup {t u:File} (ht:rightT t=true) (hu:rightT u=true):(chgL t u).Nodup:=by
 have n1:=strict_nodup (paths_strict ht)
 have n2:=strict_nodup (paths_strict hu)
 unfold chgL
 rw [chgR_eq,List.nodup_append]
 refine ⟨(chgB_sub _ _).nodup n2,?_,?_⟩
 ·refine List.Nodup.sublist ?_ n1
  exact List.Sublist.map _ List.filter_sublist
 ·intro p hp r hr e
  subst e
  obtain ⟨y,hy,hyp⟩:=List.mem_map.1 hr
  have hyl:=(List.mem_filter.1 hy).2
  obtain ⟨z,hz,hzp⟩:=List.mem_map.1 ((chgB_sub _ _).subset hp)
  rw [chgB_look,if_pos ⟨z,hz,by rw [hzp,hyp]⟩] at hyl
  simp at hyl
def mrgP:List (List ByteArray)→List (List ByteArray)→List (List ByteArray)
 | [],ys=>ys
 | x :: xs,[]=>x :: xs
 | x :: xs,y :: ys=>if cmpP y x<0 then y :: mrgP (x :: xs) ys else if x=y then x :: mrgP xs ys else x :: mrgP xs (y :: ys)
termination_by xs ys=>xs.length+ys.length
theorem mrg_mem:∀ (xs ys:List (List ByteArray)) (p:List ByteArray),p∈mrgP xs ys↔p∈xs∨p∈ys
 | [],ys,p=>by rw [mrgP];simp
 | x :: xs,[],p=>by rw [mrgP];simp
 | x :: xs,y :: ys,p=>by
  rw [mrgP]
  split
  ·rw [List.mem_cons,mrg_mem (x :: xs) ys p]
   simp only [List.mem_cons]
   constructor
   ·rintro (h | h | h)
    ·exact .inr (.inl h)
    ·exact .inl h
    ·exact .inr (.inr h)
   ·rintro (h | h | h)
    ·exact .inr (.inl h)
    ·exact .inl h
    ·exact .inr (.inr h)
  ·split
   ·rename_i _ e
    rw [List.mem_cons,mrg_mem xs ys p]
    simp only [List.mem_cons]
    rw [← e]
    constructor
    ·rintro (h | h | h)
     ·exact .inl (.inl h)
     ·exact .inl (.inr h)
     ·exact .inr (.inr h)
    ·rintro ((h | h) | h | h)
     ·exact .inl h
     ·exact .inr (.inl h)
     ·exact .inl h
     ·exact .inr (.inr h)
   ·rw [List.mem_cons,mrg_mem xs (y :: ys) p]
    simp only [List.mem_cons,or_assoc]
termination_by xs ys=>xs.length+ys.length
theorem mrg_strict:∀ (xs ys:List (List ByteArray)),strictP xs→strictP ys→strictP (mrgP xs ys)
 | [],ys,_,h=>by rw [mrgP];exact h
 | x :: xs,[],h,_=>by rw [mrgP];exact h
 | x :: xs,y :: ys,hx,hy=>by
  obtain ⟨hx1,hx2⟩:=List.pairwise_cons.1 hx
  obtain ⟨hy1,hy2⟩:=List.pairwise_cons.1 hy
  rw [mrgP]
  split
  ·rename_i h
   refine List.pairwise_cons.2 ⟨fun p hp => ?_,mrg_strict (x :: xs) ys hx hy2⟩
   rcases (mrg_mem _ _ _).1 hp with hp | hp
   ·rcases List.mem_cons.1 hp with rfl | hp
    ·exact h
    ·exact cmp_lt h (hx1 p hp)
   ·exact hy1 p hp
  ·rename_i h
   split
   ·rename_i e
    refine List.pairwise_cons.2 ⟨fun p hp => ?_,mrg_strict xs ys hx2 hy2⟩
    rcases (mrg_mem _ _ _).1 hp with hp | hp
    ·exact hx1 p hp
    ·rw [e];exact hy1 p hp
   ·rename_i e
    have hlt:cmpP x y<0:=by
     rcases Int.lt_or_le (cmpP x y) 0 with h1 | h1
     ·exact h1
     ·have h2:=cmp_anti y x
      exact absurd (cmp_zero.1 (show cmpP x y=0 by omega)) e
    refine List.pairwise_cons.2 ⟨fun p hp => ?_,mrg_strict xs (y :: ys) hx2 hy⟩
    rcases (mrg_mem _ _ _).1 hp with hp | hp
    ·exact hx1 p hp
    ·rcases List.mem_cons.1 hp with rfl | hp
     ·exact hlt
     ·exact cmp_lt hlt (hy1 p hp)
termination_by xs ys=>xs.length+ys.length
def alikeB (a b:File) (p:List ByteArray):Bool:=decide ((findR a p).2=0) && (decide ((findR b p).2=0) && (decide ((findR a p).1.kind=(findR b p).1.kind) && decide ((findR a p).1.data=(findR b p).1.data)))
theorem look_findR {t:File} (hs:SortF t) (p:List ByteArray):lookK t p=if (findR t p).2=0 then some ((findR t p).1.kind,(findR t p).1.data) else none:=by
 unfold lookK
 rw [go_findR p t hs]
 by_cases h:(findR t p).2=0
 ·rw [if_pos h,if_pos h]
 ·rw [if_neg h,if_neg h]
theorem alike_look {a b:File} (ha:SortF a) (hb:SortF b) (p:List ByteArray):alikeB a b p=true↔lookK a p=lookK b p∧(lookK a p).isSome=true:=by
 rw [look_findR ha,look_findR hb]
 unfold alikeB
 simp only [Bool.and_eq_true,decide_eq_true_eq]
 by_cases h1:(findR a p).2=0
 ·rw [if_pos h1]
  by_cases h2:(findR b p).2=0
  ·rw [if_pos h2]
   simp [h1,h2]
  ·rw [if_neg h2]
   simp [h2]
 ·rw [if_neg h1]
  simp [h1]
def rchgL (a b:File):List (List ByteArray):=(mrgP (pathsOf a) (pathsOf b)).filter fun p => !alikeB a b p
theorem rchg_iff {a b:File} (ha:rightT a=true) (hb:rightT b=true) (p:List ByteArray):p∈rchgL a b↔lookK a p≠lookK b p:=by
 obtain ⟨_,hsa,hza⟩:=ch_right ha
 obtain ⟨_,hsb,hzb⟩:=ch_right hb
 unfold rchgL
 rw [List.mem_filter,mrg_mem]
 constructor
 ·rintro ⟨h,hn⟩ e
  have hn':¬ alikeB a b p=true:=by simpa using hn
  refine hn' ((alike_look hsa hsb p).2 ⟨e,?_⟩)
  rcases h with h | h
  ·obtain ⟨y,hy,rfl⟩:=List.mem_map.1 h
   rw [look_go (hza y hy).2.2.1];rfl
  ·obtain ⟨y,hy,rfl⟩:=List.mem_map.1 h
   rw [e,look_go (hzb y hy).2.2.1];rfl
 ·intro h
  refine ⟨?_,by simpa using fun hal:alikeB a b p=true=>h ((alike_look hsa hsb p).1 hal).1⟩
  have hm:=(chg_iff ha hb p).2 h
  unfold chgL at hm
  rw [chgR_iff,chgB_out _ _ (pr_apart hb).2] at hm
  rcases hm with ⟨y,hy,rfl,_⟩ | ⟨y,hy,rfl,_⟩
  ·exact .inr (List.mem_map.2 ⟨y,hy,rfl⟩)
  ·exact .inl (List.mem_map.2 ⟨y,hy,rfl⟩)
theorem rchg_strict {a b:File} (ha:rightT a=true) (hb:rightT b=true):strictP (rchgL a b):=List.Pairwise.sublist List.filter_sublist (mrg_strict _ _ (paths_strict ha) (paths_strict hb))
theorem chg_ref {a b:File} (ha:rightT a=true) (hb:rightT b=true) {s:List (List ByteArray)} (hp:s.Perm (chgL a b)) (hs:sortedP s):s=rchgL a b :=
 strict_eq (sorted_strict hs (hp.nodup_iff.2 (chg_nodup ha hb))) (rchg_strict ha hb) fun p=>by rw [hp.mem_iff,chg_iff ha hb,rchg_iff ha hb]
end Go.Proofs.YtdnhjnlhmfajnaaGreatDoor.G
end
section
namespace Go.Proofs.YtdnhjnlhmfajnaaGreatDoor.G
open Go.RowKit Go.Lib Go.Proofs.YtdnhjnlhmfajnaaGreatDoorW.PrintWords Go.Proofs.YtdnhjnlhmfajnaaGreatDoorW.PrintLast
set_option linter.unusedVariables false
def FineE (t:File):Prop:=∀ p y,goP t p=(0,some y)→y.kind=1∨y.files=[]
theorem lookE_nil (t:File):lookK t []=some (t.kind,t.data):=look_go (k:=0) (by rw [goP])
theorem lookE_cons {f:File} (hs:SortF f) (hk:f.kind=1) (m:ByteArray) (s:List ByteArray):lookK f (m :: s)=(match f.files.find? (nameIs m) with | some x=>lookK x s | none=>none):=by
 unfold lookK
 rw [goP_find hs,if_pos hk]
 cases f.files.find? (nameIs m) <;> rfl
def lookL (l:List File) (m:ByteArray) (s:List ByteArray):Option (Int×ByteArray):=match l.find? (nameIs m) with | some x=>lookK x s | none=>none
theorem lookL_hd (x:File) (l:List File) (s:List ByteArray):lookL (x :: l) x.name s=lookK x s:=by
 unfold lookL
 rw [List.find?_cons,nameIs_iff.2 rfl]
theorem lookL_tl {x:File} {l:List File} {m:ByteArray} (h:x.name≠m) (s:List ByteArray):lookL (x :: l) m s=lookL l m s:=by
 unfold lookL
 rw [List.find?_cons,nameIs_ne h]
theorem lookL_some {l:List File} {m:ByteArray} (h:(lookL l m []).isSome=true):∃ z∈l,z.name=m:=by
 unfold lookL at h
 cases hf:l.find? (nameIs m) with
 | none=>rw [hf] at h;cases h
 | some z=>exact ⟨z,List.mem_of_find?_eq_some hf,nameIs_iff.1 (List.find?_some hf)⟩
theorem lookL_none {l:List File} {m:ByteArray} (h:∀ z∈l,z.name≠m) (s:List ByteArray):lookL l m s=none:=by
 unfold lookL
 have:l.find? (nameIs m)=none:=List.find?_eq_none.2 fun z hz=>by rw [nameIs_ne (h z hz)];decide
 rw [this]
theorem lookL_ext {P Q:File→Prop} (hP:∀ x y,P x→Q y→x.name=y.name→(∀ s,lookK x s=lookK y s)→x=y):∀ (l r:List File),SortedN l→SortedN r→(∀ x∈l,P x)→(∀ x∈r,Q x)→(∀ m s,lookL l m s=lookL r m s)→l=r
 | [],[],_,_,_,_,_=>rfl
 | [],y :: r,_,_,_,_,h=>by
  have:=h y.name []
  rw [lookL_hd,lookE_nil] at this
  cases this
 | x :: l,[],_,_,_,_,h=>by
  have:=h x.name []
  rw [lookL_hd,lookE_nil] at this
  cases this
 | x :: l,y :: r,hl,hr,pl,pr,h=>by
  obtain ⟨hl1,hl2⟩:=List.pairwise_cons.1 hl
  obtain ⟨hr1,hr2⟩:=List.pairwise_cons.1 hr
  have hxy:x.name=y.name:=by
   obtain ⟨z,hz,hzn⟩:=lookL_some (l:=y :: r) (m:=x.name) (by rw [← h,lookL_hd,lookE_nil];rfl)
   rcases List.mem_cons.1 hz with rfl | hz
   ·exact hzn.symm
   ·obtain ⟨z2,hz2,hzn2⟩:=lookL_some (l:=x :: l) (m:=y.name) (by rw [h,lookL_hd,lookE_nil];rfl)
    rcases List.mem_cons.1 hz2 with rfl | hz2
    ·exact hzn2
    ·have h1:=hr1 z hz
     have h2:=hl1 z2 hz2
     rw [hzn] at h1
     rw [hzn2] at h2
     have:=less_trans h1 h2
     rw [less_irrefl] at this
     cases this
  have he:x=y:=hP x y (pl x List.mem_cons_self) (pr y List.mem_cons_self) hxy fun s=>by
   have:=h x.name s
   rw [lookL_hd,hxy,lookL_hd] at this
   exact this
  subst he
  rw [lookL_ext hP l r hl2 hr2 (fun z hz=>pl z (List.mem_cons_of_mem _ hz)) (fun z hz=>pr z (List.mem_cons_of_mem _ hz)) fun m s => ?_]
  by_cases hm:x.name=m
  ·subst hm
   rw [lookL_none fun z hz=>Ne.symm (less_ne (hl1 z hz)),lookL_none fun z hz=>Ne.symm (less_ne (hr1 z hz))]
  ·have:=h m s
   rw [lookL_tl hm,lookL_tl hm] at this
   exact this
theorem fine_child {t x:File} (hs:SortF t) (hk:t.kind=1) (hf:FineE t) (hx:x∈t.files):FineE x:=fun p y hg=>by
 refine hf (x.name :: p) y ?_
 rw [goP_find hs,if_pos hk,find_own (by rw [SortF_eq] at hs;exact hs.1) hx]
 exact hg
theorem look_ext:∀ (n:Nat) (t u:File),t.bulk+u.bulk≤n→SortF t→SortF u→FineE t→FineE u→t.name=u.name→(∀ p,lookK t p=lookK u p)→t=u
 | 0,t,u,hn,_,_,_,_,_,_=>by have:=bulk_eq t;omega
 | n+1,t,u,hn,hs,hu,ft,fu,hnm,h=>by
  have h0:=h []
  rw [lookE_nil,lookE_nil] at h0
  injection h0 with h0
  injection h0 with hk hd
  have hfiles:t.files=u.files:=by
   by_cases hk1:t.kind=1
   ·have hs':=hs
    have hu':=hu
    rw [SortF_eq] at hs' hu'
    have hku:u.kind=1:=by rw [← hk];exact hk1
    refine lookL_ext (P:=fun x=>x∈t.files) (Q:=fun x=>x∈u.files) (fun x y hx hy hn2 hl => ?_) t.files u.files hs'.1 hu'.1 (fun x hx=>hx) (fun x hx=>hx) fun m s => ?_
    ·have h1:=bulk_child hx
     have h2:=bulk_child hy
     exact look_ext n x y (by omega) (SortL_mem.1 hs'.2 x hx) (SortL_mem.1 hu'.2 y hy) (fine_child hs hk1 ft hx) (fine_child hu hku fu hy) hn2 hl
    ·have:=h (m :: s)
     rw [lookE_cons hs hk1,lookE_cons hu hku] at this
     exact this
   ·rcases ft [] t (by rw [goP]) with h1 | h1
    ·exact absurd h1 hk1
    ·rcases fu [] u (by rw [goP]) with h2 | h2
     ·exact absurd (hk.trans h2) hk1
     ·rw [h1,h2]
  cases t
  cases u
  simp only at hnm hk hd hfiles
  subst hnm hk hd hfiles
  rfl
theorem fine_right {t:File} (h:rightT t=true):FineE t:=fun p y hg=>by
 obtain ⟨hk,hs,hz⟩:=ch_right h
 cases p with
 | nil =>
  rw [goP] at hg
  injection hg with _ hg
  injection hg with hg
  exact .inl (by rw [← hg];exact hk)
 | cons m s=>exact (hz _ (go_pr s m t y [] 0 hs hg)).1
theorem right_name {t:File} (h:rightT t=true):t.name=⟨#[]⟩:=by
 unfold rightT checkR at h
 split at h
 ·rename_i hk
  have h1:=hk.2.1
  rw [List.isEmpty_iff,Lib.toList_data] at h1
  exact ByteArray.ext (Array.toList_inj.1 h1)
 ·simp at h
theorem rchg_nil {t u:File} (ht:rightT t=true) (hu:rightT u=true):rchgL t u=[]↔t=u:=by
 constructor
 ·intro h
  refine look_ext _ t u (Nat.le_refl _) (ch_right ht).2.1 (ch_right hu).2.1 (fine_right ht) (fine_right hu) (by rw [right_name ht,right_name hu]) fun p => ?_
  by_cases e:lookK t p=lookK u p
  ·exact e
  ·have:=(rchg_iff ht hu p).2 e
   rw [h] at this
   cases this
 ·rintro rfl
  rw [List.eq_nil_iff_forall_not_mem]
  intro p hp
  exact (rchg_iff ht ht p).1 hp rfl
theorem rchg_comm {t u:File} (ht:rightT t=true) (hu:rightT u=true):rchgL t u=rchgL u t :=
 strict_eq (rchg_strict ht hu) (rchg_strict hu ht) fun p=>by rw [rchg_iff ht hu,rchg_iff hu ht];exact ne_comm
end Go.Proofs.YtdnhjnlhmfajnaaGreatDoor.G
end
end
section
namespace Go.Proofs.YtdnhjnlhmfajnaaGreatDoor.G
open Go.RowKit Go.Lib Go.Proofs.YtdnhjnlhmfajnaaGreatDoorW.PrintWords Go.Proofs.YtdnhjnlhmfajnaaGreatDoorW.PrintLast
set_option linter.unusedVariables false
set_option linter.unusedSimpArgs false
theorem path_atC {w:World} {A:Option Addr} {ll:List (List ByteArray)} (h:Kd.C PathK w A ll.length ll) (k:Nat) (hk:k<ll.length) :
  ∃ ad A' c',A=some ad∧w.cell? (ad.add k)=some (.slice A' ll[k].length c')∧ll[k].length≤c'∧Kd.C Kd.string w A' ll[k].length ll[k]:=by
 obtain ⟨ad,e,hc⟩:=h.2.2 (by omega)
 obtain ⟨cs,_,⟨A',c',rfl,h1,h2⟩,h3⟩:=hc k _ (List.getElem?_eq_getElem hk)
 have h4:=h3 0 _ rfl
 rw [show k * PathK.sz+0=k by show k * 1+0=k;omega] at h4
 exact ⟨ad,A',c',e,h4,h1,h2⟩
theorem kept_boundC (f:File):∀ x∈keptL [] f,x.1.length≤f.bulk:=by
 intro x hx
 obtain ⟨y,hy,rfl⟩:=List.mem_map.1 hx
 have:=(preF_bound f [] y hy).2
 have:=bulk_eq f
 simp only [keptE,List.length_nil] at *
 omega
theorem kept_countC (f:File):(keptL [] f).length≤f.bulk:=by
 rw [keptL,List.length_map]
 have:=preF_count f []
 have:=bulk_eq f
 omega
theorem kept_pathsC (f:File):(keptL [] f).map (·.1)=pathsOf f:=by
 unfold keptL pathsOf
 rw [List.map_map]
 rfl
def bmC (n m:Nat):Array Bool:=((List.range n).map (fun j=>m.testBit j)).toArray
set_option maxHeartbeats 8000000 in
set_option maxRecDepth 100000 in
theorem lpaths_calls (A:Option Addr) (c:Nat) (a:List (List ByteArray)) (B:Option Addr) (d:Nat) (w:World) (hr:Kd.C PathK w A a.length a) (hc:a.length≤c) (hs:Kd.C PathK w B a.length a) (hd:a.length≤d) (hl:a.length≤8796093022208) (hpl:∀ x∈a,x.length≤8796093022208) :
  Calls Tryz.prog 20 #[.slice A a.length c,.slice B a.length d] w fun e w'=>e=.returned (.bool true)∧Below w.heap.size w w':=by
 have HR:=Lib.hid hr
 have HS:=Lib.hid hs
 have HPL:=Lib.hid hpl
 clear hr hs hpl
 have hz:((a.length:Int) != (a.length:Int))=false:=by simp
 go_enter Tryz.func20,Tryz.ntmps20
 go_wp2_with fail
 go_loopw [13] (fun i wr=>∃ k:Nat,k≤a.length∧i=.int .i64 k∧Below w.heap.size w wr) (fun i _=>a.length - (RowKit.intOf i).toNat)
 case atStart=>exact ⟨0,by omega,rfl,Below.refl _ _⟩
 case round =>
  obtain ⟨k,hk,rfl,hb⟩:=hrel
  have HB:=Lib.hid hb
  by_cases q1:k<a.length
  ·obtain ⟨ad,A1,c1,rfl,hx,hc1,hC1⟩:=path_atC HR.out k q1
   obtain ⟨bd,B1,d1,rfl,hy,hc2,hC2⟩:=path_atC HS.out k q1
   have hxl:=HPL.out _ (List.getElem_mem q1)
   generalize a[k]=x at *
   have y0:=(hb.cell (World.block_lt_of_cell? _ _ hx)).trans hx
   have y1:=(hb.cell (World.block_lt_of_cell? _ _ hy)).trans hy
   have HC1:=Lib.hid (Kd.C_below hC1 hb)
   have HC2:=Lib.hid (Kd.C_below hC2 hb)
   have g1:(k:Int)<(a.length:Int):=by omega
   clear hx hy hC1 hC2 hb
   go_wp2_with fail
   refine start_ (n:=10) (S:=fun w'=>w'.cell? (ad.add k)=some (.slice A1 x.length c1)∧w'.cell? (bd.add k)=some (.slice B1 x.length d1)) (ds:=[]) (bmC 10 0) (by kernel_rfl) rfl rfl ⟨y0,y1⟩ (fun hHeld => ?_)
   refine pA 0 16 (bmC 10 1) ?_
   refine pA 1 17 (bmC 10 3) ?_
   refine pA 2 18 (bmC 10 7) ?_
   refine pA 4 20 (bmC 10 23) ?_
   refine pA 5 21 (bmC 10 55) ?_
   refine pA 6 22 (bmC 10 119) ?_
   refine tA 3 19 (bmC 10 127) hHeld ?_ (hy:=by
    rintro w' ⟨s0,s1⟩
    go_simp
    with_reducible rfl)
   refine tA 7 23 (bmC 10 255) hHeld ?_ (hy:=by
    rintro w' ⟨s0,s1⟩
    go_simp
    with_reducible rfl)
   refine eA 8 24 (bmC 10 511) (fun K hK => ?_)
   refine gA Tryz.func22 #[.slice A1 x.length c1,.slice B1 x.length d1] ?_
   refine (rpaths_calls A1 c1 x B1 d1 x _ (Kd.C_below HC1.out (bdrew (Below.refl wr.heap.size wr))) hc1 (Kd.C_below HC2.out (bdrew (Below.refl wr.heap.size wr))) hc2 hxl).mono ?_
   rintro e u8 ⟨rfl,nn,rfl⟩
   rw [decide_eq_true rfl]
   have hb8:=bdrewN (bdrew (Below.refl wr.heap.size wr)) nn
   refine ⟨_,rfl,?_⟩
   refine hK.out _ _ ⟨(hb8.cell (World.block_lt_of_cell? _ _ y0)).trans y0,(hb8.cell (World.block_lt_of_cell? _ _ y1)).trans y1⟩ (fun hHeld => ?_)
   refine nA 24 ?_
   refine pA 9 25 (bmC 10 1023) ?_
   refine done_ (by kernel_rfl) ?_
   go_wp2_with fail
   go_roundw
   case rel=>exact ⟨k+1,by omega,by go_num,bdrewN HB.out _⟩
   case measure=>simp [RowKit.intOf];omega
  ·obtain rfl:k=a.length:=by omega
   go_wp2_with fail
   go_ret
   exact ⟨rfl,HB.out⟩
def rchgR (a b:File):List (List ByteArray):=if (rightT a && rightT b)=true then rchgL a b else []
theorem mrg_len:∀ (xs ys:List (List ByteArray)),(mrgP xs ys).length≤xs.length+ys.length
 | [],ys=>by rw [mrgP];simp
 | x :: xs,[]=>by rw [mrgP];simp
 | x :: xs,y :: ys=>by
  rw [mrgP]
  split
  ·have:=mrg_len (x :: xs) ys
   simp only [List.length_cons] at this ⊢
   omega
  ·split
   ·have:=mrg_len xs ys
    simp only [List.length_cons] at this ⊢
    omega
   ·have:=mrg_len xs (y :: ys)
    simp only [List.length_cons] at this ⊢
    omega
termination_by xs ys=>xs.length+ys.length
theorem go_lenC:∀ (r:List ByteArray) (t y:File) (k:Int),goP t r=(k,some y)→4 * r.length≤t.bulk
 | [],_,_,_,_=>Nat.zero_le _
 | m :: r,t,y,k,h=>by
  obtain ⟨x,_,hx,_,h2⟩:=goP_full h
  have h3:=go_lenC r x y k h2
  have h4:=bulk_child (List.mem_of_getElem? hx)
  simp only [List.length_cons]
  omega
theorem look_lenC {t u:File} {r:List ByteArray} (h:lookK t r≠lookK u r):r.length≤t.bulk+u.bulk:=by
 cases ht:lookK t r with
 | some z =>
  obtain ⟨y,h1,_⟩:=look_some ht
  have:=go_lenC r t y 0 h1
  omega
 | none =>
  cases hu:lookK u r with
  | some z =>
   obtain ⟨y,h1,_⟩:=look_some hu
   have:=go_lenC r u y 0 h1
   omega
  | none=>exact absurd (ht.trans hu.symm) h
theorem rchgR_len (a b:File):(rchgR a b).length≤a.bulk+b.bulk∧∀ x∈rchgR a b,x.length≤a.bulk+b.bulk:=by
 unfold rchgR
 by_cases h:(rightT a && rightT b)=true
 ·rw [if_pos h]
  rw [Bool.and_eq_true] at h
  refine ⟨?_,fun x hx=>look_lenC ((rchg_iff h.1 h.2 x).1 hx)⟩
  have h1:=List.length_filter_le (fun p => !alikeB a b p) (mrgP (pathsOf a) (pathsOf b))
  have h2:=mrg_len (pathsOf a) (pathsOf b)
  have h3:=kept_countC a
  have h4:=kept_countC b
  rw [← kept_pathsC,← kept_pathsC,List.length_map,List.length_map] at h2
  unfold rchgL
  rw [← kept_pathsC,← kept_pathsC] at *
  omega
 ·rw [if_neg h]
  exact ⟨Nat.zero_le _,fun x hx=>by cases hx⟩
theorem chg_isR {a b:File} {s:List (List ByteArray)} (h1:(rightT a && rightT b)=true→s.Perm (chgL a b)∧sortedP s) (h2:(rightT a && rightT b)=false→s=[]):s=rchgR a b:=by
 unfold rchgR
 by_cases h:(rightT a && rightT b)=true
 ·rw [if_pos h]
  rw [Bool.and_eq_true] at h
  exact chg_ref h.1 h.2 (h1 (by rw [h.1,h.2];rfl)).1 (h1 (by rw [h.1,h.2];rfl)).2
 ·rw [if_neg h]
  exact h2 (by simpa using h)
end Go.Proofs.YtdnhjnlhmfajnaaGreatDoor.G
end
section
namespace Go.Proofs.YtdnhjnlhmfajnaaGreatDoor.G
open Go.RowKit Go.Lib Go.Proofs.YtdnhjnlhmfajnaaGreatDoorW.PrintWords Go.Proofs.YtdnhjnlhmfajnaaGreatDoorW.PrintLast
set_option linter.unusedVariables false
set_option linter.unusedSimpArgs false
theorem get_lookD {t:File} (h:rightT t=true) (p:List ByteArray):lookK t p=if (getR t p).2=0 then some ((getR t p).1.kind,(getR t p).1.data) else none:=by
 have hs:=(ch_right h).2.1
 unfold getR
 rw [if_pos h,look_findR hs,go_findR p t hs]
 by_cases h0:(findR t p).2=0
 ·rw [if_pos h0,if_pos h0];rfl
 ·rw [if_neg h0,if_neg h0]
  simp only
  rw [if_neg h0]
theorem rchgR_comm (a b:File):rchgR b a=rchgR a b:=by
 unfold rchgR
 rw [Bool.and_comm]
 split
 ·rename_i h
  rw [Bool.and_eq_true] at h
  exact rchg_comm h.2 h.1
 ·rfl
theorem differ_at {a b:File} (ha:rightT a=true) (hb:rightT b=true) {p:List ByteArray} (hp:p∈rchgL a b):¬ ((getR a p).2=0∧(getR b p).2=0∧(getR a p).1.kind=(getR b p).1.kind∧(getR a p).1.data=(getR b p).1.data):=by
 rintro ⟨h1,h2,h3,h4⟩
 refine (rchg_iff ha hb p).1 hp ?_
 rw [get_lookD ha,get_lookD hb,if_pos h1,if_pos h2,h3,h4]
theorem same_at {a b:File} (ha:rightT a=true) (hb:rightT b=true) {z:List ByteArray×(Int×Int)} (hz:z∈keptL [] a) (hn:z.1 ∉ rchgL a b):(getR b z.1).2=0∧(getR b z.1).1.kind=z.2.1∧((getR b z.1).1.data.size:Int)=z.2.2:=by
 obtain ⟨y,hy,rfl⟩:=List.mem_map.1 hz
 have h1:=(ch_right ha).2.2 y hy
 have h2:lookK a (keptE y).1=some (y.2.kind,y.2.data):=look_go h1.2.2.1
 have h3:lookK b (keptE y).1=some (y.2.kind,y.2.data):=by
  by_cases e:lookK a (keptE y).1=lookK b (keptE y).1
  ·rw [← e];exact h2
  ·exact absurd ((rchg_iff ha hb _).2 e) hn
 rw [get_lookD hb] at h3
 split at h3
 ·rename_i h0
  injection h3 with h3
  injection h3 with h4 h5
  exact ⟨h0,h4,by rw [h5];rfl⟩
 ·cases h3
theorem take_memD {l:List (List ByteArray)} {r:List ByteArray} {n:Nat} (h:n<l.length):r∈l.take (n+1)↔r∈l.take n∨r=l[n]:=by
 rw [List.take_succ_eq_append_getElem h,List.mem_append,List.mem_singleton]
def bmD (n m:Nat):Array Bool:=((List.range n).map (fun j=>m.testBit j)).toArray
set_option maxHeartbeats 8000000 in
set_option maxRecDepth 100000 in
theorem ldiffer_calls (a:File) (A:Option Addr) (c:Nat) (b:File) (B:Option Addr) (d:Nat) (w:World) (ha:FileK.C w A a.files.length a.files) (hca:a.files.length≤c) (hba:a.bulk≤1048576) (hb:FileK.C w B b.files.length b.files) (hcb:b.files.length≤d) (hbb:b.bulk≤1048576) (hG:Tab w) (hM:Maxed w) :
  Calls Tryz.prog 8 #[fileV a A c,fileV b B d] w fun e w'=>e=.returned (.bool true)∧Below w.heap.size w w':=by
 have h2:=two_boxes w (fc a A c) (fc b B d) 25 25
 have hb0:=((Below.refl w.heap.size w).alloc (Nat.le_refl _) (.cells (fc a A c) 25)).alloc (by simp) (.cells (fc b B d) 25)
 have I:=Lib.hid (Hd.base hb0 (by first | exact Nat.le_refl _ | exact Below.size hb0))
 replace I:=Lib.hid (Hd.and I.out (Hd.box (h2.1)))
 replace I:=Lib.hid (Hd.and I.out (Hd.box (h2.2)))
 replace I:=Lib.hid (Hd.and I.out (Hd.reads (Kd.C_below ha hb0)))
 replace I:=Lib.hid (Hd.and I.out (Hd.reads (Kd.C_below hb hb0)))
 have HG:=Lib.hid hG
 have HM:=Lib.hid hM
 obtain ⟨rr,hrr⟩:∃ r,(rightT a && rightT b)=r:=⟨_,rfl⟩
 have HRR:=Lib.hid hrr
 have HLN:=Lib.hid (rchgR_len a b)
 have HLC:=Lib.hid (rchgR_comm a b)
 obtain ⟨L,hL⟩:∃ L,rchgR a b=L:=⟨_,rfl⟩
 rw [hL] at HLN HLC
 have HL:=Lib.hid hL
 obtain ⟨kk,hkk⟩:∃ k:Int,(if rr=true then (0:Int) else 30)=k:=⟨_,rfl⟩
 have HKK:=Lib.hid hkk
 clear h2 ha hb hL hkk hG hM hrr
 go_enter Tryz.func8,Tryz.ntmps8
 unfold fileV
 go_wp2_with fail
 generalize ((w.alloc (.cells (fc a A c) 25)).alloc (.cells (fc b B d) 25))=W0 at *
 refine ((lives_calls _ (Tab_b HG.out I.out.now.2.2.2.2) (Maxed_below HM.out I.out.now.2.2.2.2))).mono ?_
 rintro e w1 ⟨rfl,hq1⟩
 replace I:=Lib.hid (Hd.mv I.out hq1)
 obtain ⟨la0,la1,la2,la3⟩:=c4A I.out.now.2.2.2.1
 obtain ⟨lb0,lb1,lb2,lb3⟩:=c4A I.out.now.2.2.1
 go_wp2_with fail
 clear la0 la1 la2 la3 lb0 lb1 lb2 lb3
 refine ((show Calls Tryz.prog 33 #[.agg (fc a A c),.agg (fc b B d)] _ _ from changed_calls a b A B c d _ (by omega) (by omega) I.out.now.2.1 hca I.out.now.1 hcb)).mono ?_
 rintro e w2 ⟨A1,c1,s1,rfl,hc1,hp,hn,hC,hq2⟩
 replace I:=Lib.hid (Hd.mv I.out hq2)
 obtain rfl:s1=L:=(chg_isR hp hn).trans HL.out
 have hkk:(if (rightT a && rightT b)=true then (0:Int) else 30)=kk:=by rw [HRR.out];exact HKK.out
 rw [hkk]
 clear hp hn hkk
 have HX1:=Lib.hid hC
 clear hC
 obtain ⟨la0,la1,la2,la3⟩:=c4A I.out.now.2.2.2.1
 obtain ⟨lb0,lb1,lb2,lb3⟩:=c4A I.out.now.2.2.1
 go_wp2_with fail
 clear la0 la1 la2 la3 lb0 lb1 lb2 lb3
 refine ((show Calls Tryz.prog 33 #[.agg (fc b B d),.agg (fc a A c)] _ _ from changed_calls b a B A d c _ (by omega) (by omega) I.out.now.1 hcb I.out.now.2.1 hca)).mono ?_
 rintro e w3 ⟨A2,c2,s2,rfl,hc2,hp,hn,hC,hq3⟩
 replace I:=Lib.hid (Hd.mv I.out hq3)
 have hs:=(chg_isR hp hn).trans HLC.out
 subst hs
 have hkk:(if (rightT b && rightT a)=true then (0:Int) else 30)=kk:=by rw [Bool.and_comm,HRR.out];exact HKK.out
 rw [hkk]
 clear hp hn hkk
 have HX2:=Lib.hid hC
 clear hC
 replace HX1:=Lib.hid (Kd.C_below HX1.out hq3)
 have ek:(kk != kk)=false:=by simp
 go_wp2_with fail
 refine (lpaths_calls A1 c1 _ A2 c2 _ HX1.out hc1 HX2.out hc2 (by have:=HLN.out.1;omega) (fun x hx=>by have:=HLN.out.2 x hx;omega)).mono ?_
 rintro e w4 ⟨rfl,hq4⟩
 replace I:=Lib.hid (Hd.mv I.out hq4)
 replace HX1:=Lib.hid (Kd.C_below HX1.out hq4)
 clear HX2 ek
 cases rr
 ·obtain rfl:kk=30:=HKK.out.symm
  have HE:Hid (s2=[]):=Lib.hid (by rw [← HL.out];unfold rchgR;rw [HRR.out];rfl)
  have he:=HE.out
  have HB9:=I.out.now.2.2.2.2
  subst he
  go_wp2_with fail
  go_ret
  exact ⟨by simp,HB9⟩
 obtain rfl:kk=0:=HKK.out.symm
 have HR2:Hid (rightT a=true∧rightT b=true):=Lib.hid (by simpa using HRR.out)
 have HL2:Hid (rchgL a b=s2):=Lib.hid (by rw [← HL.out];unfold rchgR;rw [HRR.out];rfl)
 obtain ⟨bb,hbb⟩:∃ r,sameT a b=r:=⟨_,rfl⟩
 have e0:((s2.length:Int) == 0)=bb:=by
  rw [← hbb]
  have h:=rchg_nil HR2.out.1 HR2.out.2
  rw [HL2.out] at h
  by_cases hn:s2=[]
  ·rw [hn,h.1 hn,sameT_self];rfl
  ·rw [show sameT a b=false by
    cases h9:sameT a b with
    | false=>rfl
    | true=>exact absurd (h.2 (sameT_eq h9)) hn]
   have:=List.length_pos_iff.2 hn
   exact beq_eq_false_iff_ne.2 (by omega)
 have e1:(bb != bb)=false:=by simp
 have HBB:=Lib.hid hbb
 clear hbb
 obtain ⟨la0,la1,la2,la3⟩:=c4A I.out.now.2.2.2.1
 obtain ⟨lb0,lb1,lb2,lb3⟩:=c4A I.out.now.2.2.1
 go_wp2_with fail
 clear la0 la1 la2 la3 lb0 lb1 lb2 lb3
 refine ((show Calls Tryz.prog 14 #[.agg (fc a A c),.agg (fc b B d)] _ _ from rsame_file _ a b A c B d _ (Nat.le_refl _) (by omega) I.out.now.2.1 hca I.out.now.1 hcb)).mono ?_
 rintro e w5 ⟨rfl,hq5⟩
 replace I:=Lib.hid (Hd.mv I.out hq5)
 rw [HBB.out]
 replace HX1:=Lib.hid (Kd.C_below HX1.out hq5)
 go_wp2_with fail
 have HXA:=Lib.hid I.out.now.2.2.2.1
 have HXB:=Lib.hid I.out.now.2.2.1
 have HCA:=Lib.hid I.out.now.2.1
 have HCB:=Lib.hid I.out.now.1
 have HB6:=Lib.hid I.out.now.2.2.2.2
 have hs6:=HB6.out.size
 have HSP:Hid (strictP s2):=Lib.hid (by rw [← HL2.out];exact rchg_strict HR2.out.1 HR2.out.2)
 clear I e0 e1
 have hsl:s2.length≤a.bulk+b.bulk:=HLN.out.1
 go_loopw [59] (fun i wr=>∃ k:Nat,k≤s2.length∧i=.int .i64 k∧Hid (Below w5.heap.size w5 wr)) (fun i _=>s2.length - (RowKit.intOf i).toNat)
 case atStart=>exact ⟨0,by omega,rfl,Lib.hid (Below.refl _ _)⟩
 case round =>
  obtain ⟨k,hk,rfl,HBW⟩:=hrel
  by_cases q1:k<s2.length
  ·have g1':(k:Int)<(s2.length:Int):=by omega
   rcases Nat.eq_zero_or_pos k with hk0 | hk0
   ·subst hk0
    have hx0:∀ {W:World} {p:Addr} {v:Value},W.cell? (p.add 0)=some v→W.cell? p=some v:=fun h=>by simpa [Addr.add] using h
    obtain ⟨ad,Ap,cp,he,hx,hcp,hCx⟩:=path_atC HX1.out (0) q1
    subst he
    have hin:=List.getElem_mem q1
    have hxl:=HLN.out.2 _ hin
    generalize s2[0]=x at *
    have HDF0:=Lib.hid (differ_at HR2.out.1 HR2.out.2 (p:=x) (by rw [HL2.out];exact hin))
    replace hx:=hx0 hx
    have HYC:=Lib.hid hx
    have HCX:=Lib.hid hCx
    obtain ⟨⟨g1,k1⟩,hg1⟩:∃ r,getR a x=r:=⟨_,rfl⟩
    obtain ⟨⟨g2,k2⟩,hg2⟩:∃ r,getR b x=r:=⟨_,rfl⟩
    have hdf:=HDF0.out
    rw [hg1,hg2] at hdf
    have HDF:=Lib.hid hdf
    have HGg1:=Lib.hid hg1
    have HGg2:=Lib.hid hg2
    clear hin hx hCx hdf hg1 hg2 HDF0
    go_wp2_with fail
    refine start_ (n:=15) (S:=fun _=>True) (ds:=[]) (bmD 15 0) (by kernel_rfl) rfl rfl trivial (fun hHeld => ?_)
    refine pA 0 62 (bmD 15 1) ?_
    refine pA 1 63 (bmD 15 3) ?_
    refine pA 2 64 (bmD 15 7) ?_
    refine oA 3 65 (bmD 15 15) ?_
    refine oA 4 66 (bmD 15 31) ?_
    refine oA 5 67 (bmD 15 63) ?_
    refine oA 6 68 (bmD 15 127) ?_
    refine oA 7 69 (bmD 15 255) ?_
    refine oA 8 70 (bmD 15 511) ?_
    refine oA 9 71 (bmD 15 1023) ?_
    refine oA 10 72 (bmD 15 2047) ?_
    refine oA 11 73 (bmD 15 4095) ?_
    refine oA 12 74 (bmD 15 8191) ?_
    refine oA 13 75 (bmD 15 16383) ?_
    refine pA 14 76 (bmD 15 32767) ?_
    refine done_ (by kernel_rfl) ?_
    have hbd:=bdrew (Below.refl wr.heap.size wr)
    have HB_V1:=Lib.hid (HBW.out.trans (hbd.mono HBW.out.size))
    clear hbd
    generalize wr.drew=V1 at *
    have HGC:Hid (∀ W,Below V1.heap.size V1 W→Calls Tryz.prog 28 #[.agg (fc a A c),.slice Ap x.length cp] W fun e w'=>∃ A6 c6,e=.returned (.tuple #[.agg (fc g1 A6 c6),.int .i64 k1])∧Below W.heap.size W w'):=Lib.hid fun W hW=>by
     have hWb:=HB_V1.out.trans (hW.mono HB_V1.out.size)
     have h:=Get_calls a A c Ap cp x W (Kd.C_below HCA.out hWb) hca (by omega) (Kd.C_below HCX.out hWb) hcp (by omega)
     rw [HGg1.out] at h
     refine (show Calls Tryz.prog 28 #[.agg (fc a A c),.slice Ap x.length cp] W _ from h).mono ?_
     rintro e w' ⟨v,rfl,hR,hb⟩
     obtain ⟨A6,c6,rfl⟩:=Kd.R_slice hR
     exact ⟨A6,c6,rfl,hb⟩
    have HHX:Hid (∀ W,Below V1.heap.size V1 W→W.heap[w.heap.size]? = some (.cells (fc a A c) 25 (0,0))∧W.cell? ad=some (.slice Ap x.length cp)):=Lib.hid fun W hW=>by
     have hWb:=HB_V1.out.trans (hW.mono HB_V1.out.size)
     exact ⟨(hWb.block _ (blk_lt HXA.out)).trans HXA.out,(hWb.cell (World.block_lt_of_cell? _ _ HYC.out)).trans HYC.out⟩
    go_wp2_with fail
    refine start_ (n:=12) (S:=fun w'=>w'.heap[w.heap.size]? = some (.cells (fc a A c) 25 (0,0))∧w'.cell? ad=some (.slice Ap x.length cp)) (ds:=[]) (bmD 12 0) (by kernel_rfl) rfl rfl (HHX.out _ (bdrew (Below.refl V1.heap.size V1))) (fun hHeld => ?_)
    refine pA 1 79 (bmD 12 2) ?_
    refine pA 2 80 (bmD 12 6) ?_
    refine pA 3 81 (bmD 12 14) ?_
    refine tA 0 78 (bmD 12 15) hHeld ?_ (hy:=by
     rintro w' ⟨s0,s1⟩
     have q0:=cell_of (j:=0) s0 rfl
     have q1:=cell_of (j:=1) s0 rfl
     have q2:=cell_of (j:=2) s0 rfl
     have q3:=cell_of (j:=3) s0 rfl
     go_simp
     with_reducible rfl)
    refine tA 4 82 (bmD 12 31) hHeld ?_ (hy:=by
     rintro w' ⟨s0,s1⟩
     go_simp
     with_reducible rfl)
    refine join_ (σ:=(Option Addr×Nat)×Nat) 2 (bmD 12 1023) (fun s=>match s with | ((A6,c6),gd)=>[(83,.tuple #[.agg (fc g1 A6 c6),.int .i64 k1]),(77,.tuple #[.agg (fc g1 A6 c6),.int .i64 k1]),(84,.agg (fc g1 A6 c6)),(85,.int .i64 k1),(10,.pointer (some ⟨gd,0,none⟩))]) (fun s W=>match s with | ((A6,c6),gd)=>Below V1.heap.size V1 W∧V1.heap.size≤gd∧W.heap[gd]? = some (.cells zC 25 (0,0))) ?_ ?_
    rotate_left
    ·intro hc
     refine two_ (i:=5) (j:=9) (Ni:=some 83) (Nj:=some 10) (bmD 12 63) (bmD 12 543) rfl rfl rfl rfl (by kernel_rfl) (by decide) (by decide) (fun K hK => ?_) (fun K hK => ?_)
     ·refine gA Tryz.func28 #[.agg (fc a A c),.slice Ap x.length cp] ?_
      refine ((show Calls Tryz.prog 28 #[.agg (fc a A c),.slice Ap x.length cp] _ _ from HGC.out _ (bdrew (Below.refl V1.heap.size V1)))).mono ?_
      rintro e w5 ⟨A6,c6,rfl,hq5⟩
      refine ⟨_,rfl,?_⟩
      refine hK.out _ _ ((HHX.out _ ((bdrew (Below.refl V1.heap.size V1)).trans hq5))) (fun _ => ?_)
      refine nA 83 ?_
      refine pA 6 77 (bmD 12 127) ?_
      refine pA 7 84 (bmD 12 255) ?_
      refine pA 8 85 (bmD 12 511) ?_
      refine eA 9 10 (bmD 12 1023) (fun K hK => ?_)
      refine vA ?_
      refine hK.out _ _ ((HHX.out _ (below_alloc ((bdrew (Below.refl V1.heap.size V1)).trans hq5) _))) (fun _ => ?_)
      refine jA (hc ((A6,c6),w5.heap.size) _ (⟨below_alloc ((bdrew (Below.refl V1.heap.size V1)).trans hq5) _,((bdrew (Below.refl V1.heap.size V1)).trans hq5).size,blk_new w5 _⟩))
     ·refine vA ?_
      refine hK.out _ _ ((HHX.out _ (below_alloc (bdrew (Below.refl V1.heap.size V1)) (.cells zC 25)))) (fun _ => ?_)
      refine nA 10 ?_
      refine eA 5 83 (bmD 12 575) (fun K hK => ?_)
      refine gA Tryz.func28 #[.agg (fc a A c),.slice Ap x.length cp] ?_
      refine ((show Calls Tryz.prog 28 #[.agg (fc a A c),.slice Ap x.length cp] _ _ from HGC.out _ (below_alloc (bdrew (Below.refl V1.heap.size V1)) (.cells zC 25)))).mono ?_
      rintro e w5 ⟨A6,c6,rfl,hq5⟩
      refine ⟨_,rfl,?_⟩
      refine hK.out _ _ ((HHX.out _ ((below_alloc (bdrew (Below.refl V1.heap.size V1)) (.cells zC 25)).trans (hq5.mono (below_alloc (Below.refl V1.drew.heap.size V1.drew) (.cells zC 25)).size)))) (fun _ => ?_)
      refine nA 83 ?_
      refine pA 6 77 (bmD 12 639) ?_
      refine pA 7 84 (bmD 12 767) ?_
      refine pA 8 85 (bmD 12 1023) ?_
      refine jA (hc ((A6,c6),V1.heap.size) _ (⟨((below_alloc (bdrew (Below.refl V1.heap.size V1)) (.cells zC 25)).trans (hq5.mono (below_alloc (Below.refl V1.drew.heap.size V1.drew) (.cells zC 25)).size)),Nat.le_refl _,(hq5.block _ (blk_lt (blk_new V1.drew (.cells zC 25)))).trans (blk_new V1.drew (.cells zC 25))⟩))
    ·rintro ⟨⟨A6,c6⟩,gd⟩ W hF
     refine uA ?_
     obtain ⟨hbW,hgd,hzz⟩:=hF
     have hHeld:=HHX.out _ hbW
     refine one_ (i:=10) (N:=none) (bmD 12 2047) rfl rfl (by kernel_rfl) (by decide) (fun K hK => ?_)
     obtain ⟨zc0,zc1,zc2,zc3⟩:=c4A hzz
     obtain ⟨zu0,zu1,zu2,zu3⟩:=u4A hzz
     refine sA ?_
     have HSB:=Lib.hid (store4_below (B:=V1.heap.size) hbW (g:=gd) hgd (.string g1.name) (.int .u8 g1.kind) (.string g1.data) (.slice A6 g1.files.length c6))
     have HSX:=Lib.hid (store4_box hzz (.string g1.name) (.int .u8 g1.kind) (.string g1.data) (.slice A6 g1.files.length c6))
     refine hK.out _ _ (HHX.out _ HSB.out) (fun hHeld => ?_)
     clear zc0 zc1 zc2 zc3 zu0 zu1 zu2 zu3 hzz
     generalize ((((W.setCell ⟨gd,0,none⟩ (.string g1.name)).setCell ⟨gd,1,none⟩ (.int .u8 g1.kind)).setCell ⟨gd,2,none⟩ (.string g1.data)).setCell ⟨gd,3,none⟩ (.slice A6 g1.files.length c6))=V4 at *
     refine pA 11 11 (bmD 12 4095) ?_
     refine done_ (by kernel_rfl) ?_
     have HB_V4:=Lib.hid (HB_V1.out.trans (HSB.out.mono HB_V1.out.size))
     have HSX1:=Lib.hid HSX.out
     clear hHeld hK HSB HSX HHX HGC hbW hgd
     generalize gd=gd1 at *
     generalize A6=A61 at *
     generalize c6=c61 at *
     have HGC:Hid (∀ W,Below V4.heap.size V4 W→Calls Tryz.prog 28 #[.agg (fc b B d),.slice Ap x.length cp] W fun e w'=>∃ A6 c6,e=.returned (.tuple #[.agg (fc g2 A6 c6),.int .i64 k2])∧Below W.heap.size W w'):=Lib.hid fun W hW=>by
      have hWb:=HB_V4.out.trans (hW.mono HB_V4.out.size)
      have h:=Get_calls b B d Ap cp x W (Kd.C_below HCB.out hWb) hcb (by omega) (Kd.C_below HCX.out hWb) hcp (by omega)
      rw [HGg2.out] at h
      refine (show Calls Tryz.prog 28 #[.agg (fc b B d),.slice Ap x.length cp] W _ from h).mono ?_
      rintro e w' ⟨v,rfl,hR,hb⟩
      obtain ⟨A6,c6,rfl⟩:=Kd.R_slice hR
      exact ⟨A6,c6,rfl,hb⟩
     have HHX:Hid (∀ W,Below V4.heap.size V4 W→W.heap[w.heap.size+1]? = some (.cells (fc b B d) 25 (0,0))∧W.cell? ad=some (.slice Ap x.length cp)):=Lib.hid fun W hW=>by
      have hWb:=HB_V4.out.trans (hW.mono HB_V4.out.size)
      exact ⟨(hWb.block _ (blk_lt HXB.out)).trans HXB.out,(hWb.cell (World.block_lt_of_cell? _ _ HYC.out)).trans HYC.out⟩
     go_wp2_with fail
     refine start_ (n:=12) (S:=fun w'=>w'.heap[w.heap.size+1]? = some (.cells (fc b B d) 25 (0,0))∧w'.cell? ad=some (.slice Ap x.length cp)) (ds:=[]) (bmD 12 0) (by kernel_rfl) rfl rfl (HHX.out _ (bdrew (Below.refl V4.heap.size V4))) (fun hHeld => ?_)
     refine pA 1 88 (bmD 12 2) ?_
     refine pA 2 89 (bmD 12 6) ?_
     refine pA 3 90 (bmD 12 14) ?_
     refine tA 0 87 (bmD 12 15) hHeld ?_ (hy:=by
      rintro w' ⟨s0,s1⟩
      have q0:=cell_of (j:=0) s0 rfl
      have q1:=cell_of (j:=1) s0 rfl
      have q2:=cell_of (j:=2) s0 rfl
      have q3:=cell_of (j:=3) s0 rfl
      go_simp
      with_reducible rfl)
     refine tA 4 91 (bmD 12 31) hHeld ?_ (hy:=by
      rintro w' ⟨s0,s1⟩
      go_simp
      with_reducible rfl)
     refine join_ (σ:=(Option Addr×Nat)×Nat) 2 (bmD 12 1023) (fun s=>match s with | ((A6,c6),gd)=>[(92,.tuple #[.agg (fc g2 A6 c6),.int .i64 k2]),(86,.tuple #[.agg (fc g2 A6 c6),.int .i64 k2]),(93,.agg (fc g2 A6 c6)),(94,.int .i64 k2),(12,.pointer (some ⟨gd,0,none⟩))]) (fun s W=>match s with | ((A6,c6),gd)=>Below V4.heap.size V4 W∧V4.heap.size≤gd∧W.heap[gd]? = some (.cells zC 25 (0,0))) ?_ ?_
     rotate_left
     ·intro hc
      refine two_ (i:=5) (j:=9) (Ni:=some 92) (Nj:=some 12) (bmD 12 63) (bmD 12 543) rfl rfl rfl rfl (by kernel_rfl) (by decide) (by decide) (fun K hK => ?_) (fun K hK => ?_)
      ·refine gA Tryz.func28 #[.agg (fc b B d),.slice Ap x.length cp] ?_
       refine ((show Calls Tryz.prog 28 #[.agg (fc b B d),.slice Ap x.length cp] _ _ from HGC.out _ (bdrew (Below.refl V4.heap.size V4)))).mono ?_
       rintro e w5 ⟨A6,c6,rfl,hq5⟩
       refine ⟨_,rfl,?_⟩
       refine hK.out _ _ ((HHX.out _ ((bdrew (Below.refl V4.heap.size V4)).trans hq5))) (fun _ => ?_)
       refine nA 92 ?_
       refine pA 6 86 (bmD 12 127) ?_
       refine pA 7 93 (bmD 12 255) ?_
       refine pA 8 94 (bmD 12 511) ?_
       refine eA 9 12 (bmD 12 1023) (fun K hK => ?_)
       refine vA ?_
       refine hK.out _ _ ((HHX.out _ (below_alloc ((bdrew (Below.refl V4.heap.size V4)).trans hq5) _))) (fun _ => ?_)
       refine jA (hc ((A6,c6),w5.heap.size) _ (⟨below_alloc ((bdrew (Below.refl V4.heap.size V4)).trans hq5) _,((bdrew (Below.refl V4.heap.size V4)).trans hq5).size,blk_new w5 _⟩))
      ·refine vA ?_
       refine hK.out _ _ ((HHX.out _ (below_alloc (bdrew (Below.refl V4.heap.size V4)) (.cells zC 25)))) (fun _ => ?_)
       refine nA 12 ?_
       refine eA 5 92 (bmD 12 575) (fun K hK => ?_)
       refine gA Tryz.func28 #[.agg (fc b B d),.slice Ap x.length cp] ?_
       refine ((show Calls Tryz.prog 28 #[.agg (fc b B d),.slice Ap x.length cp] _ _ from HGC.out _ (below_alloc (bdrew (Below.refl V4.heap.size V4)) (.cells zC 25)))).mono ?_
       rintro e w5 ⟨A6,c6,rfl,hq5⟩
       refine ⟨_,rfl,?_⟩
       refine hK.out _ _ ((HHX.out _ ((below_alloc (bdrew (Below.refl V4.heap.size V4)) (.cells zC 25)).trans (hq5.mono (below_alloc (Below.refl V4.drew.heap.size V4.drew) (.cells zC 25)).size)))) (fun _ => ?_)
       refine nA 92 ?_
       refine pA 6 86 (bmD 12 639) ?_
       refine pA 7 93 (bmD 12 767) ?_
       refine pA 8 94 (bmD 12 1023) ?_
       refine jA (hc ((A6,c6),V4.heap.size) _ (⟨((below_alloc (bdrew (Below.refl V4.heap.size V4)) (.cells zC 25)).trans (hq5.mono (below_alloc (Below.refl V4.drew.heap.size V4.drew) (.cells zC 25)).size)),Nat.le_refl _,(hq5.block _ (blk_lt (blk_new V4.drew (.cells zC 25)))).trans (blk_new V4.drew (.cells zC 25))⟩))
     ·rintro ⟨⟨A6,c6⟩,gd⟩ W hF
      refine uA ?_
      obtain ⟨hbW,hgd,hzz⟩:=hF
      have hHeld:=HHX.out _ hbW
      refine one_ (i:=10) (N:=none) (bmD 12 2047) rfl rfl (by kernel_rfl) (by decide) (fun K hK => ?_)
      obtain ⟨zc0,zc1,zc2,zc3⟩:=c4A hzz
      obtain ⟨zu0,zu1,zu2,zu3⟩:=u4A hzz
      refine sA ?_
      have HSB:=Lib.hid (store4_below (B:=V4.heap.size) hbW (g:=gd) hgd (.string g2.name) (.int .u8 g2.kind) (.string g2.data) (.slice A6 g2.files.length c6))
      have HSX:=Lib.hid (store4_box hzz (.string g2.name) (.int .u8 g2.kind) (.string g2.data) (.slice A6 g2.files.length c6))
      refine hK.out _ _ (HHX.out _ HSB.out) (fun hHeld => ?_)
      clear zc0 zc1 zc2 zc3 zu0 zu1 zu2 zu3 hzz
      generalize ((((W.setCell ⟨gd,0,none⟩ (.string g2.name)).setCell ⟨gd,1,none⟩ (.int .u8 g2.kind)).setCell ⟨gd,2,none⟩ (.string g2.data)).setCell ⟨gd,3,none⟩ (.slice A6 g2.files.length c6))=V5 at *
      refine pA 11 13 (bmD 12 4095) ?_
      refine done_ (by kernel_rfl) ?_
      have HB_V5:=Lib.hid (HB_V4.out.trans (HSB.out.mono HB_V4.out.size))
      clear hHeld hK HHX HGC hbW hgd
      have f1:=cell_of (j:=1) HSX.out rfl
      have f2:=cell_of (j:=2) HSX.out rfl
      have HX1N:=Lib.hid ((HSB.out.block _ (blk_lt HSX1.out)).trans HSX1.out)
      have e1:=cell_of (j:=1) HX1N.out rfl
      have e2:=cell_of (j:=2) HX1N.out rfl
      by_cases q1:k1=0
      rotate_left
      ·have z1:(k1 == 0)=false:=beq_eq_false_iff_ne.2 q1
       clear q1
       go_wp2_with fail
       go_roundw
       case rel=>exact ⟨0+1,by omega,by go_num,HB_V5⟩
       case measure=>simp [RowKit.intOf];omega
      have z1:(k1 == 0)=true:=beq_iff_eq.2 q1
      by_cases q2:k2=0
      rotate_left
      ·have z2:(k2 == 0)=false:=beq_eq_false_iff_ne.2 q2
       clear q1 q2
       go_wp2_with fail
       go_roundw
       case rel=>exact ⟨0+1,by omega,by go_num,HB_V5⟩
       case measure=>simp [RowKit.intOf];omega
      have z2:(k2 == 0)=true:=beq_iff_eq.2 q2
      by_cases q3:g1.kind=g2.kind
      rotate_left
      ·have z3:(g1.kind == g2.kind)=false:=beq_eq_false_iff_ne.2 q3
       clear q1 q2 q3
       go_wp2_with fail
       go_roundw
       case rel=>exact ⟨0+1,by omega,by go_num,HB_V5⟩
       case measure=>simp [RowKit.intOf];omega
      have z3:(g1.kind == g2.kind)=true:=beq_iff_eq.2 q3
      have q4:¬ g1.data=g2.data:=fun h=>HDF.out ⟨q1,q2,q3,h⟩
      have z4:(g1.data.toList == g2.data.toList)=false:=beq_eq_false_iff_ne.2 (fun h=>q4 (toList_inj.1 h))
      clear q1 q2 q3 q4
      go_wp2_with fail
      go_roundw
      case rel=>exact ⟨0+1,by omega,by go_num,HB_V5⟩
      case measure=>simp [RowKit.intOf];omega
   ·skip
    obtain ⟨j,hj⟩:∃ j,k=j+1:=⟨k - 1,by omega⟩
    obtain ⟨ad,Ap,cp,he,hx,hcp,hCx⟩:=path_atC HX1.out (k) q1
    subst he
    have hin:=List.getElem_mem q1
    have hxl:=HLN.out.2 _ hin
    obtain ⟨ad2,Aq,cq,he,hy,hcq,hCq⟩:=path_atC HX1.out j (by omega)
    injection he with he
    subst he
    have hlt:cmpP s2[j] s2[k]<0:=List.pairwise_iff_getElem.1 HSP.out j k (by omega) q1 (by omega)
    have hql:=HLN.out.2 _ (List.getElem_mem (show j<s2.length by omega))
    generalize s2[j]=xq at *
    generalize s2[k]=x at *
    have HDF0:=Lib.hid (differ_at HR2.out.1 HR2.out.2 (p:=x) (by rw [HL2.out];exact hin))
    have HYC:=Lib.hid hx
    have HCX:=Lib.hid hCx
    obtain ⟨⟨g1,k1⟩,hg1⟩:∃ r,getR a x=r:=⟨_,rfl⟩
    obtain ⟨⟨g2,k2⟩,hg2⟩:∃ r,getR b x=r:=⟨_,rfl⟩
    have hdf:=HDF0.out
    rw [hg1,hg2] at hdf
    have HDF:=Lib.hid hdf
    have HGg1:=Lib.hid hg1
    have HGg2:=Lib.hid hg2
    clear hin hx hCx hdf hg1 hg2 HDF0
    have HLT:=Lib.hid hlt
    have HYQ:=Lib.hid hy
    have HCQ:=Lib.hid hCq
    clear hlt hy hCq
    have y0:=(HBW.out.cell (World.block_lt_of_cell? _ _ HYQ.out)).trans HYQ.out
    have y1:=(HBW.out.cell (World.block_lt_of_cell? _ _ HYC.out)).trans HYC.out
    have g0:(j:Int)<(s2.length:Int):=by omega
    have gk:0<(k:Int):=by omega
    have hW:wrap64 ((k:Int) - 1)=(j:Int):=by rw [show (k:Int) - 1=(j:Int) by omega];exact Go.IntWalk.wrap64_in _ ⟨by omega,by omega⟩
    clear hj
    go_wp2_with fail
    refine start_ (n:=15) (S:=fun w'=>w'.cell? (ad.add j)=some (.slice Aq xq.length cq)∧w'.cell? (ad.add k)=some (.slice Ap x.length cp)) (ds:=[]) (bmD 15 0) (by kernel_rfl) rfl rfl ⟨y0,y1⟩ (fun hHeld => ?_)
    refine pA 0 62 (bmD 15 1) ?_
    refine pA 1 63 (bmD 15 3) ?_
    refine pA 2 64 (bmD 15 7) ?_
    refine pA 3 65 (bmD 15 15) ?_
    refine pA 4 66 (bmD 15 31) ?_
    refine pA 5 67 (bmD 15 63) ?_
    refine pA 6 68 (bmD 15 127) ?_
    refine pA 8 70 (bmD 15 383) ?_
    refine pA 9 71 (bmD 15 895) ?_
    refine pA 10 72 (bmD 15 1919) ?_
    refine tA 7 69 (bmD 15 2047) hHeld ?_ (hy:=by
     rintro w' ⟨s0,s1⟩
     go_simp
     with_reducible rfl)
    refine tA 11 73 (bmD 15 4095) hHeld ?_ (hy:=by
     rintro w' ⟨s0,s1⟩
     go_simp
     with_reducible rfl)
    refine eA 12 74 (bmD 15 8191) (fun K hK => ?_)
    refine gA Tryz.func35 #[.slice Aq xq.length cq,.slice Ap x.length cp] ?_
    refine (ahead_calls Aq cq xq Ap cp x _ (Kd.C_below (Kd.C_below HCQ.out HBW.out) (bdrew (Below.refl wr.heap.size wr))) hcq (Kd.C_below (Kd.C_below HCX.out HBW.out) (bdrew (Below.refl wr.heap.size wr))) hcp (by omega)).mono ?_
    rintro e V1 ⟨rfl,nn,hv⟩
    rw [decide_eq_true HLT.out]
    have hb9:Below wr.heap.size wr V1:=by rw [hv];exact bdrewN (bdrew (Below.refl wr.heap.size wr)) nn
    refine ⟨_,rfl,?_⟩
    refine hK.out _ _ ⟨(hb9.cell (World.block_lt_of_cell? _ _ y0)).trans y0,(hb9.cell (World.block_lt_of_cell? _ _ y1)).trans y1⟩ (fun hHeld => ?_)
    refine nA 74 ?_
    refine pA 13 75 (bmD 15 16383) ?_
    refine pA 14 76 (bmD 15 32767) ?_
    refine done_ (by kernel_rfl) ?_
    have HB_V1:=Lib.hid (HBW.out.trans (hb9.mono HBW.out.size))
    clear hb9 hv y0 y1
    have HGC:Hid (∀ W,Below V1.heap.size V1 W→Calls Tryz.prog 28 #[.agg (fc a A c),.slice Ap x.length cp] W fun e w'=>∃ A6 c6,e=.returned (.tuple #[.agg (fc g1 A6 c6),.int .i64 k1])∧Below W.heap.size W w'):=Lib.hid fun W hW=>by
     have hWb:=HB_V1.out.trans (hW.mono HB_V1.out.size)
     have h:=Get_calls a A c Ap cp x W (Kd.C_below HCA.out hWb) hca (by omega) (Kd.C_below HCX.out hWb) hcp (by omega)
     rw [HGg1.out] at h
     refine (show Calls Tryz.prog 28 #[.agg (fc a A c),.slice Ap x.length cp] W _ from h).mono ?_
     rintro e w' ⟨v,rfl,hR,hb⟩
     obtain ⟨A6,c6,rfl⟩:=Kd.R_slice hR
     exact ⟨A6,c6,rfl,hb⟩
    have HHX:Hid (∀ W,Below V1.heap.size V1 W→W.heap[w.heap.size]? = some (.cells (fc a A c) 25 (0,0))∧W.cell? (ad.add k)=some (.slice Ap x.length cp)):=Lib.hid fun W hW=>by
     have hWb:=HB_V1.out.trans (hW.mono HB_V1.out.size)
     exact ⟨(hWb.block _ (blk_lt HXA.out)).trans HXA.out,(hWb.cell (World.block_lt_of_cell? _ _ HYC.out)).trans HYC.out⟩
    go_wp2_with fail
    refine start_ (n:=12) (S:=fun w'=>w'.heap[w.heap.size]? = some (.cells (fc a A c) 25 (0,0))∧w'.cell? (ad.add k)=some (.slice Ap x.length cp)) (ds:=[]) (bmD 12 0) (by kernel_rfl) rfl rfl (HHX.out _ (bdrew (Below.refl V1.heap.size V1))) (fun hHeld => ?_)
    refine pA 1 79 (bmD 12 2) ?_
    refine pA 2 80 (bmD 12 6) ?_
    refine pA 3 81 (bmD 12 14) ?_
    refine tA 0 78 (bmD 12 15) hHeld ?_ (hy:=by
     rintro w' ⟨s0,s1⟩
     have q0:=cell_of (j:=0) s0 rfl
     have q1:=cell_of (j:=1) s0 rfl
     have q2:=cell_of (j:=2) s0 rfl
     have q3:=cell_of (j:=3) s0 rfl
     go_simp
     with_reducible rfl)
    refine tA 4 82 (bmD 12 31) hHeld ?_ (hy:=by
     rintro w' ⟨s0,s1⟩
     go_simp
     with_reducible rfl)
    refine join_ (σ:=(Option Addr×Nat)×Nat) 2 (bmD 12 1023) (fun s=>match s with | ((A6,c6),gd)=>[(83,.tuple #[.agg (fc g1 A6 c6),.int .i64 k1]),(77,.tuple #[.agg (fc g1 A6 c6),.int .i64 k1]),(84,.agg (fc g1 A6 c6)),(85,.int .i64 k1),(10,.pointer (some ⟨gd,0,none⟩))]) (fun s W=>match s with | ((A6,c6),gd)=>Below V1.heap.size V1 W∧V1.heap.size≤gd∧W.heap[gd]? = some (.cells zC 25 (0,0))) ?_ ?_
    rotate_left
    ·intro hc
     refine two_ (i:=5) (j:=9) (Ni:=some 83) (Nj:=some 10) (bmD 12 63) (bmD 12 543) rfl rfl rfl rfl (by kernel_rfl) (by decide) (by decide) (fun K hK => ?_) (fun K hK => ?_)
     ·refine gA Tryz.func28 #[.agg (fc a A c),.slice Ap x.length cp] ?_
      refine ((show Calls Tryz.prog 28 #[.agg (fc a A c),.slice Ap x.length cp] _ _ from HGC.out _ (bdrew (Below.refl V1.heap.size V1)))).mono ?_
      rintro e w5 ⟨A6,c6,rfl,hq5⟩
      refine ⟨_,rfl,?_⟩
      refine hK.out _ _ ((HHX.out _ ((bdrew (Below.refl V1.heap.size V1)).trans hq5))) (fun _ => ?_)
      refine nA 83 ?_
      refine pA 6 77 (bmD 12 127) ?_
      refine pA 7 84 (bmD 12 255) ?_
      refine pA 8 85 (bmD 12 511) ?_
      refine eA 9 10 (bmD 12 1023) (fun K hK => ?_)
      refine vA ?_
      refine hK.out _ _ ((HHX.out _ (below_alloc ((bdrew (Below.refl V1.heap.size V1)).trans hq5) _))) (fun _ => ?_)
      refine jA (hc ((A6,c6),w5.heap.size) _ (⟨below_alloc ((bdrew (Below.refl V1.heap.size V1)).trans hq5) _,((bdrew (Below.refl V1.heap.size V1)).trans hq5).size,blk_new w5 _⟩))
     ·refine vA ?_
      refine hK.out _ _ ((HHX.out _ (below_alloc (bdrew (Below.refl V1.heap.size V1)) (.cells zC 25)))) (fun _ => ?_)
      refine nA 10 ?_
      refine eA 5 83 (bmD 12 575) (fun K hK => ?_)
      refine gA Tryz.func28 #[.agg (fc a A c),.slice Ap x.length cp] ?_
      refine ((show Calls Tryz.prog 28 #[.agg (fc a A c),.slice Ap x.length cp] _ _ from HGC.out _ (below_alloc (bdrew (Below.refl V1.heap.size V1)) (.cells zC 25)))).mono ?_
      rintro e w5 ⟨A6,c6,rfl,hq5⟩
      refine ⟨_,rfl,?_⟩
      refine hK.out _ _ ((HHX.out _ ((below_alloc (bdrew (Below.refl V1.heap.size V1)) (.cells zC 25)).trans (hq5.mono (below_alloc (Below.refl V1.drew.heap.size V1.drew) (.cells zC 25)).size)))) (fun _ => ?_)
      refine nA 83 ?_
      refine pA 6 77 (bmD 12 639) ?_
      refine pA 7 84 (bmD 12 767) ?_
      refine pA 8 85 (bmD 12 1023) ?_
      refine jA (hc ((A6,c6),V1.heap.size) _ (⟨((below_alloc (bdrew (Below.refl V1.heap.size V1)) (.cells zC 25)).trans (hq5.mono (below_alloc (Below.refl V1.drew.heap.size V1.drew) (.cells zC 25)).size)),Nat.le_refl _,(hq5.block _ (blk_lt (blk_new V1.drew (.cells zC 25)))).trans (blk_new V1.drew (.cells zC 25))⟩))
    ·rintro ⟨⟨A6,c6⟩,gd⟩ W hF
     refine uA ?_
     obtain ⟨hbW,hgd,hzz⟩:=hF
     have hHeld:=HHX.out _ hbW
     refine one_ (i:=10) (N:=none) (bmD 12 2047) rfl rfl (by kernel_rfl) (by decide) (fun K hK => ?_)
     obtain ⟨zc0,zc1,zc2,zc3⟩:=c4A hzz
     obtain ⟨zu0,zu1,zu2,zu3⟩:=u4A hzz
     refine sA ?_
     have HSB:=Lib.hid (store4_below (B:=V1.heap.size) hbW (g:=gd) hgd (.string g1.name) (.int .u8 g1.kind) (.string g1.data) (.slice A6 g1.files.length c6))
     have HSX:=Lib.hid (store4_box hzz (.string g1.name) (.int .u8 g1.kind) (.string g1.data) (.slice A6 g1.files.length c6))
     refine hK.out _ _ (HHX.out _ HSB.out) (fun hHeld => ?_)
     clear zc0 zc1 zc2 zc3 zu0 zu1 zu2 zu3 hzz
     generalize ((((W.setCell ⟨gd,0,none⟩ (.string g1.name)).setCell ⟨gd,1,none⟩ (.int .u8 g1.kind)).setCell ⟨gd,2,none⟩ (.string g1.data)).setCell ⟨gd,3,none⟩ (.slice A6 g1.files.length c6))=V4 at *
     refine pA 11 11 (bmD 12 4095) ?_
     refine done_ (by kernel_rfl) ?_
     have HB_V4:=Lib.hid (HB_V1.out.trans (HSB.out.mono HB_V1.out.size))
     have HSX1:=Lib.hid HSX.out
     clear hHeld hK HSB HSX HHX HGC hbW hgd
     generalize gd=gd1 at *
     generalize A6=A61 at *
     generalize c6=c61 at *
     have HGC:Hid (∀ W,Below V4.heap.size V4 W→Calls Tryz.prog 28 #[.agg (fc b B d),.slice Ap x.length cp] W fun e w'=>∃ A6 c6,e=.returned (.tuple #[.agg (fc g2 A6 c6),.int .i64 k2])∧Below W.heap.size W w'):=Lib.hid fun W hW=>by
      have hWb:=HB_V4.out.trans (hW.mono HB_V4.out.size)
      have h:=Get_calls b B d Ap cp x W (Kd.C_below HCB.out hWb) hcb (by omega) (Kd.C_below HCX.out hWb) hcp (by omega)
      rw [HGg2.out] at h
      refine (show Calls Tryz.prog 28 #[.agg (fc b B d),.slice Ap x.length cp] W _ from h).mono ?_
      rintro e w' ⟨v,rfl,hR,hb⟩
      obtain ⟨A6,c6,rfl⟩:=Kd.R_slice hR
      exact ⟨A6,c6,rfl,hb⟩
     have HHX:Hid (∀ W,Below V4.heap.size V4 W→W.heap[w.heap.size+1]? = some (.cells (fc b B d) 25 (0,0))∧W.cell? (ad.add k)=some (.slice Ap x.length cp)):=Lib.hid fun W hW=>by
      have hWb:=HB_V4.out.trans (hW.mono HB_V4.out.size)
      exact ⟨(hWb.block _ (blk_lt HXB.out)).trans HXB.out,(hWb.cell (World.block_lt_of_cell? _ _ HYC.out)).trans HYC.out⟩
     go_wp2_with fail
     refine start_ (n:=12) (S:=fun w'=>w'.heap[w.heap.size+1]? = some (.cells (fc b B d) 25 (0,0))∧w'.cell? (ad.add k)=some (.slice Ap x.length cp)) (ds:=[]) (bmD 12 0) (by kernel_rfl) rfl rfl (HHX.out _ (bdrew (Below.refl V4.heap.size V4))) (fun hHeld => ?_)
     refine pA 1 88 (bmD 12 2) ?_
     refine pA 2 89 (bmD 12 6) ?_
     refine pA 3 90 (bmD 12 14) ?_
     refine tA 0 87 (bmD 12 15) hHeld ?_ (hy:=by
      rintro w' ⟨s0,s1⟩
      have q0:=cell_of (j:=0) s0 rfl
      have q1:=cell_of (j:=1) s0 rfl
      have q2:=cell_of (j:=2) s0 rfl
      have q3:=cell_of (j:=3) s0 rfl
      go_simp
      with_reducible rfl)
     refine tA 4 91 (bmD 12 31) hHeld ?_ (hy:=by
      rintro w' ⟨s0,s1⟩
      go_simp
      with_reducible rfl)
     refine join_ (σ:=(Option Addr×Nat)×Nat) 2 (bmD 12 1023) (fun s=>match s with | ((A6,c6),gd)=>[(92,.tuple #[.agg (fc g2 A6 c6),.int .i64 k2]),(86,.tuple #[.agg (fc g2 A6 c6),.int .i64 k2]),(93,.agg (fc g2 A6 c6)),(94,.int .i64 k2),(12,.pointer (some ⟨gd,0,none⟩))]) (fun s W=>match s with | ((A6,c6),gd)=>Below V4.heap.size V4 W∧V4.heap.size≤gd∧W.heap[gd]? = some (.cells zC 25 (0,0))) ?_ ?_
     rotate_left
     ·intro hc
      refine two_ (i:=5) (j:=9) (Ni:=some 92) (Nj:=some 12) (bmD 12 63) (bmD 12 543) rfl rfl rfl rfl (by kernel_rfl) (by decide) (by decide) (fun K hK => ?_) (fun K hK => ?_)
      ·refine gA Tryz.func28 #[.agg (fc b B d),.slice Ap x.length cp] ?_
       refine ((show Calls Tryz.prog 28 #[.agg (fc b B d),.slice Ap x.length cp] _ _ from HGC.out _ (bdrew (Below.refl V4.heap.size V4)))).mono ?_
       rintro e w5 ⟨A6,c6,rfl,hq5⟩
       refine ⟨_,rfl,?_⟩
       refine hK.out _ _ ((HHX.out _ ((bdrew (Below.refl V4.heap.size V4)).trans hq5))) (fun _ => ?_)
       refine nA 92 ?_
       refine pA 6 86 (bmD 12 127) ?_
       refine pA 7 93 (bmD 12 255) ?_
       refine pA 8 94 (bmD 12 511) ?_
       refine eA 9 12 (bmD 12 1023) (fun K hK => ?_)
       refine vA ?_
       refine hK.out _ _ ((HHX.out _ (below_alloc ((bdrew (Below.refl V4.heap.size V4)).trans hq5) _))) (fun _ => ?_)
       refine jA (hc ((A6,c6),w5.heap.size) _ (⟨below_alloc ((bdrew (Below.refl V4.heap.size V4)).trans hq5) _,((bdrew (Below.refl V4.heap.size V4)).trans hq5).size,blk_new w5 _⟩))
      ·refine vA ?_
       refine hK.out _ _ ((HHX.out _ (below_alloc (bdrew (Below.refl V4.heap.size V4)) (.cells zC 25)))) (fun _ => ?_)
       refine nA 12 ?_
       refine eA 5 92 (bmD 12 575) (fun K hK => ?_)
       refine gA Tryz.func28 #[.agg (fc b B d),.slice Ap x.length cp] ?_
       refine ((show Calls Tryz.prog 28 #[.agg (fc b B d),.slice Ap x.length cp] _ _ from HGC.out _ (below_alloc (bdrew (Below.refl V4.heap.size V4)) (.cells zC 25)))).mono ?_
       rintro e w5 ⟨A6,c6,rfl,hq5⟩
       refine ⟨_,rfl,?_⟩
       refine hK.out _ _ ((HHX.out _ ((below_alloc (bdrew (Below.refl V4.heap.size V4)) (.cells zC 25)).trans (hq5.mono (below_alloc (Below.refl V4.drew.heap.size V4.drew) (.cells zC 25)).size)))) (fun _ => ?_)
       refine nA 92 ?_
       refine pA 6 86 (bmD 12 639) ?_
       refine pA 7 93 (bmD 12 767) ?_
       refine pA 8 94 (bmD 12 1023) ?_
       refine jA (hc ((A6,c6),V4.heap.size) _ (⟨((below_alloc (bdrew (Below.refl V4.heap.size V4)) (.cells zC 25)).trans (hq5.mono (below_alloc (Below.refl V4.drew.heap.size V4.drew) (.cells zC 25)).size)),Nat.le_refl _,(hq5.block _ (blk_lt (blk_new V4.drew (.cells zC 25)))).trans (blk_new V4.drew (.cells zC 25))⟩))
     ·rintro ⟨⟨A6,c6⟩,gd⟩ W hF
      refine uA ?_
      obtain ⟨hbW,hgd,hzz⟩:=hF
      have hHeld:=HHX.out _ hbW
      refine one_ (i:=10) (N:=none) (bmD 12 2047) rfl rfl (by kernel_rfl) (by decide) (fun K hK => ?_)
      obtain ⟨zc0,zc1,zc2,zc3⟩:=c4A hzz
      obtain ⟨zu0,zu1,zu2,zu3⟩:=u4A hzz
      refine sA ?_
      have HSB:=Lib.hid (store4_below (B:=V4.heap.size) hbW (g:=gd) hgd (.string g2.name) (.int .u8 g2.kind) (.string g2.data) (.slice A6 g2.files.length c6))
      have HSX:=Lib.hid (store4_box hzz (.string g2.name) (.int .u8 g2.kind) (.string g2.data) (.slice A6 g2.files.length c6))
      refine hK.out _ _ (HHX.out _ HSB.out) (fun hHeld => ?_)
      clear zc0 zc1 zc2 zc3 zu0 zu1 zu2 zu3 hzz
      generalize ((((W.setCell ⟨gd,0,none⟩ (.string g2.name)).setCell ⟨gd,1,none⟩ (.int .u8 g2.kind)).setCell ⟨gd,2,none⟩ (.string g2.data)).setCell ⟨gd,3,none⟩ (.slice A6 g2.files.length c6))=V5 at *
      refine pA 11 13 (bmD 12 4095) ?_
      refine done_ (by kernel_rfl) ?_
      have HB_V5:=Lib.hid (HB_V4.out.trans (HSB.out.mono HB_V4.out.size))
      clear hHeld hK HHX HGC hbW hgd
      have f1:=cell_of (j:=1) HSX.out rfl
      have f2:=cell_of (j:=2) HSX.out rfl
      have HX1N:=Lib.hid ((HSB.out.block _ (blk_lt HSX1.out)).trans HSX1.out)
      have e1:=cell_of (j:=1) HX1N.out rfl
      have e2:=cell_of (j:=2) HX1N.out rfl
      by_cases q1:k1=0
      rotate_left
      ·have z1:(k1 == 0)=false:=beq_eq_false_iff_ne.2 q1
       clear q1
       go_wp2_with fail
       go_roundw
       case rel=>exact ⟨k+1,by omega,by go_num,HB_V5⟩
       case measure=>simp [RowKit.intOf];omega
      have z1:(k1 == 0)=true:=beq_iff_eq.2 q1
      by_cases q2:k2=0
      rotate_left
      ·have z2:(k2 == 0)=false:=beq_eq_false_iff_ne.2 q2
       clear q1 q2
       go_wp2_with fail
       go_roundw
       case rel=>exact ⟨k+1,by omega,by go_num,HB_V5⟩
       case measure=>simp [RowKit.intOf];omega
      have z2:(k2 == 0)=true:=beq_iff_eq.2 q2
      by_cases q3:g1.kind=g2.kind
      rotate_left
      ·have z3:(g1.kind == g2.kind)=false:=beq_eq_false_iff_ne.2 q3
       clear q1 q2 q3
       go_wp2_with fail
       go_roundw
       case rel=>exact ⟨k+1,by omega,by go_num,HB_V5⟩
       case measure=>simp [RowKit.intOf];omega
      have z3:(g1.kind == g2.kind)=true:=beq_iff_eq.2 q3
      have q4:¬ g1.data=g2.data:=fun h=>HDF.out ⟨q1,q2,q3,h⟩
      have z4:(g1.data.toList == g2.data.toList)=false:=beq_eq_false_iff_ne.2 (fun h=>q4 (toList_inj.1 h))
      clear q1 q2 q3 q4
      go_wp2_with fail
      go_roundw
      case rel=>exact ⟨k+1,by omega,by go_num,HB_V5⟩
      case measure=>simp [RowKit.intOf];omega
  ·obtain rfl:k=s2.length:=by omega
   obtain ⟨l0,l1,l2,l3⟩:=c4A ((HBW.out.block _ (blk_lt HXA.out)).trans HXA.out)
   go_wp2_with fail
   clear l0 l1 l2 l3
   refine (show Calls Tryz.prog 21 #[.agg (fc a A c)] _ _ from list_calls a A c _ (by omega) (Kd.C_below HCA.out HBW.out) hca).mono ?_
   rintro e w9 ⟨v9,rfl,hR9,hq9⟩
   rw [if_pos HR2.out.1] at hR9 ⊢
   obtain ⟨A9,c9,rfl,hc9,hC9⟩:=Kd.R_reads hR9
   have hll:=kept_countC a
   have hlb:=kept_boundC a
   obtain ⟨l,hl⟩:∃ l,keptL [] a=l:=⟨_,rfl⟩
   rw [hl] at hR9 hc9 hC9 hll hlb ⊢
   have HLl:=Lib.hid hl
   have HC9:=Lib.hid hC9
   have HLB:=Lib.hid hlb
   have HB9:=Lib.hid (HBW.out.trans (hq9.mono HBW.out.size))
   clear hR9 hC9 hlb hl hq9 HBW
   go_wp2_with fail
   go_loopw [123] (fun i wz=>∃ m:Nat,m≤l.length∧i=.int .i64 m∧Hid (Below w9.heap.size w9 wz)) (fun i _=>l.length - (RowKit.intOf i).toNat)
   case atStart=>exact ⟨0,by omega,rfl,Lib.hid (Below.refl _ _)⟩
   case round =>
    obtain ⟨m,hm,rfl,HBZ⟩:=hrel
    obtain ⟨wz,rfl⟩:∃ W,W=wr:=⟨_,rfl⟩
    by_cases q2:m<l.length
    ·have g2':(m:Int)<(l.length:Int):=by omega
     obtain ⟨kd,Bk,dk,he,p0,p1,p2,hdk,hCk⟩:=kept_at HC9.out m q2
     subst he
     have hin:=List.getElem_mem q2
     have hzb:=HLB.out _ hin
     generalize l[m]=z at *
     have HSA:=Lib.hid (fun hn=>same_at HR2.out.1 HR2.out.2 (z:=z) (by rw [HLl.out];exact hin) (by rw [HL2.out];exact hn))
     have HCk:=Lib.hid hCk
     have y0:=(HBZ.out.cell (World.block_lt_of_cell? _ _ p0)).trans p0
     have y1:=(HBZ.out.cell (World.block_lt_of_cell? _ _ p1)).trans p1
     have y2:=(HBZ.out.cell (World.block_lt_of_cell? _ _ p2)).trans p2
     have hax:=below_alloc (Below.refl wz.heap.size wz) (.cells #[.slice Bk z.1.length dk,.int .u8 z.2.1,.int .i64 z.2.2] 49)
     have HKB:=Lib.hid (blk_new wz (.cells #[.slice Bk z.1.length dk,.int .u8 z.2.1,.int .i64 z.2.2] 49))
     have HBV1:=Lib.hid (HBZ.out.trans (hax.mono HBZ.out.size))
     have HB61:=Lib.hid (HB9.out.trans (HBV1.out.mono HB9.out.size))
     obtain ⟨l0,l1,l2,l3⟩:=c4A ((HB61.out.block _ (blk_lt HXB.out)).trans HXB.out)
     obtain ⟨e0,e1,e2⟩:=c3A HKB.out
     clear hin hCk p0 p1 p2 hax
     go_wp2_with fail
     clear y0 y1 y2 l0 l1 l2 l3 e0 e1 e2
     generalize (wz.alloc (.cells #[.slice Bk z.1.length dk,.int .u8 z.2.1,.int .i64 z.2.2] 49))=V1 at *
     obtain ⟨⟨g,kn⟩,hg⟩:∃ r,getR b z.1=r:=⟨_,rfl⟩
     have hgc:=Get_calls b B d Bk dk z.1 V1 (Kd.C_below HCB.out HB61.out) hcb (by omega) (Kd.C_below HCk.out HBV1.out) hdk (by omega)
     rw [hg] at hgc
     have hsa:=HSA.out
     rw [hg] at hsa
     have HS2:=Lib.hid hsa
     refine (show Calls Tryz.prog 28 #[.agg (fc b B d),.slice Bk z.1.length dk] V1 _ from hgc).mono ?_
     clear hgc hsa HSA hg
     rintro e V2 ⟨v2,rfl,hR2,hq2⟩
     obtain ⟨A6,c6,rfl⟩:=Kd.R_slice hR2
     simp only
     have hax:=below_alloc (Below.refl V2.heap.size V2) (.cells (fc g A6 c6) 25)
     have HGB:=Lib.hid (blk_new V2 (.cells (fc g A6 c6) 25))
     have HBV3:=Lib.hid ((HBV1.out.trans (hq2.mono HBV1.out.size)).trans (hax.mono (HBV1.out.trans (hq2.mono HBV1.out.size)).size))
     have HKB3:=Lib.hid ((hax.block _ (blk_lt ((hq2.block _ (blk_lt HKB.out)).trans HKB.out))).trans ((hq2.block _ (blk_lt HKB.out)).trans HKB.out))
     clear hR2 hq2 hax HBV1 HKB
     go_wp2_with fail
     generalize (V2.alloc (.cells (fc g A6 c6) 25))=V3 at *
     go_loopw [19,136] (fun t j wy=>∃ (n:Nat) (bb:Bool),n≤s2.length∧t=.bool bb∧j=.int .i64 n∧Hid (bb=true↔z.1∈s2.take n)∧Hid (Below V3.heap.size V3 wy)) (fun _ j _=>s2.length - (RowKit.intOf j).toNat)
     case atStart=>exact ⟨0,false,by omega,rfl,rfl,Lib.hid (by simp),Lib.hid (Below.refl _ _)⟩
     case round =>
      obtain ⟨n,bb,hn,rfl,rfl,HBI,HBY⟩:=hrel
      obtain ⟨wy,rfl⟩:∃ W,W=wr:=⟨_,rfl⟩
      have HB9Y:=Lib.hid (HBV3.out.trans (HBY.out.mono HBV3.out.size))
      have HB6Y:=Lib.hid (HB9.out.trans (HB9Y.out.mono HB9.out.size))
      obtain ⟨e0,e1,e2⟩:=c3A ((HBY.out.block _ (blk_lt HKB3.out)).trans HKB3.out)
      obtain ⟨f0,f1,f2,f3⟩:=c4A ((HBY.out.block _ (blk_lt HGB.out)).trans HGB.out)
      by_cases q3:n<s2.length
      ·have g3':(n:Int)<(s2.length:Int):=by omega
       obtain ⟨pd,Bp,dp,he,hp0,hdp,hCp⟩:=path_atC HX1.out n q3
       subst he
       have hpl:=HLN.out.2 _ (List.getElem_mem q3)
       have HTM:=Lib.hid (take_memD (r:=z.1) q3)
       generalize s2[n]=q at *
       have y0:=(HB6Y.out.cell (World.block_lt_of_cell? _ _ hp0)).trans hp0
       have HCp:=Lib.hid (Kd.C_below hCp HB6Y.out)
       clear hp0 hCp
       cases bb
       ·go_wp2_with fail
        refine (rpaths_calls Bp dp q Bk dk z.1 _ HCp.out hdp (Kd.C_below HCk.out HB9Y.out) hdk (by omega)).mono ?_
        rintro e V4 ⟨rfl,nq,hv⟩
        have hb4:Below wy.heap.size wy V4:=by rw [hv];exact bdrewN (Below.refl _ _) nq
        have HBX:=Lib.hid (HBY.out.trans (hb4.mono HBY.out.size))
        have HNX:Hid (decide (q=z.1)=true↔z.1∈s2.take (n+1)):=Lib.hid (by
         rw [HTM.out,decide_eq_true_eq]
         exact ⟨fun e=>.inr e.symm,fun h=>h.elim (fun h=>absurd (HBI.out.2 h) (by decide)) (fun h=>h.symm)⟩)
        clear hv hb4 y0
        generalize decide (q=z.1)=b2 at *
        go_wp2_with fail
        go_roundw
        case rel=>exact ⟨n+1,b2,by omega,rfl,by go_num,HNX,HBX⟩
        case measure=>simp [RowKit.intOf];omega
       ·have HNX:Hid (true=true↔z.1∈s2.take (n+1)):=Lib.hid (by
         rw [HTM.out]
         exact ⟨fun _=>.inl (HBI.out.1 (by trivial)),fun _=>rfl⟩)
        go_wp2_with fail
        go_roundw
        case rel=>exact ⟨n+1,true,by omega,rfl,by go_num,HNX,HBY⟩
        case measure=>simp [RowKit.intOf];omega
      ·obtain rfl:n=s2.length:=by omega
       have hbi:=HBI.out
       rw [List.take_length] at hbi
       have HBI2:=Lib.hid hbi
       clear hbi
       cases bb
       ·obtain ⟨r1,r2,r3⟩:=HS2.out (fun h=>absurd (HBI2.out.2 h) (by decide))
        try simp only at r1 r2 r3
        have z1:(kn != 0)=false:=by rw [r1];rfl
        have z2:(g.kind != z.2.1)=false:=by rw [r2];simp
        have z3:((g.data.size:Int) != z.2.2)=false:=by rw [r3];simp
        clear r1 r2 r3
        go_wp2_with fail
        go_roundw
        case rel=>exact ⟨m+1,by omega,by go_num,HB9Y⟩
        case measure=>simp [RowKit.intOf];omega
       ·go_wp2_with fail
        go_roundw
        case rel=>exact ⟨m+1,by omega,by go_num,HB9Y⟩
        case measure=>simp [RowKit.intOf];omega
    ·obtain rfl:m=l.length:=by omega
     have hbz:=HB6.out.trans ((HB9.out.trans (HBZ.out.mono HB9.out.size)).mono HB6.out.size)
     go_wp2_with fail
     go_ret
     exact ⟨rfl,hbz⟩
end Go.Proofs.YtdnhjnlhmfajnaaGreatDoor.G
end
