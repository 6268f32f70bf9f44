import Derived.Test.YtdnhjnlhmfajnaaGreatDoorTAhead
import Derived.Test.YtdnhjnlhmfajnaaGreatDoorTChanged
import Derived.Test.YtdnhjnlhmfajnaaGreatDoorTRFind
import Derived.Test.YtdnhjnlhmfajnaaGreatDoorKit
import Derived.Test.YtdnhjnlhmfajnaaGreatDoorSq
import Derived.Test.YtdnhjnlhmfajnaaGreatDoorTLives
import Derived.Test.YtdnhjnlhmfajnaaGreatDoorQNEv
import Derived.Test.YtdnhjnlhmfajnaaGreatDoorQShare
set_option linter.unusedVariables false
set_option linter.unusedSimpArgs false
section
namespace Go.Proofs.YtdnhjnlhmfajnaaGreatDoor.G
open Go.RowKit Go.Lib Go.Proofs.YtdnhjnlhmfajnaaGreatDoorW.PrintWords Go.Proofs.YtdnhjnlhmfajnaaGreatDoorW.PrintLast
set_option linter.unusedVariables false
set_option linter.unusedSimpArgs false
theorem ch_all {rec:File→List ByteArray→Option (List ByteArray)} {p:List ByteArray}:∀ {l:List File} {prev:Option ByteArray},wrongL rec p prev l=none→∀ x∈l,nameB x.name.data.toList=true∧aloneB x=true∧rec x (p++[x.name])=none
 | [],prev,h,x,hx=>by cases hx
 | y :: l,prev,h,x,hx=>by
  rw [wrongL] at h
  split at h
  ·cases h
  ·rename_i hb
   split at h
   ·cases h
   ·rename_i hr
    rcases List.mem_cons.1 hx with rfl | hx
    ·have hb:=Bool.eq_false_iff.2 hb
     unfold badF at hb
     simp only [Bool.or_eq_false_iff,Bool.not_eq_false'] at hb
     exact ⟨hb.1.1.1,hb.2,hr⟩
    ·exact ch_all h x hx
theorem alone_files {x:File} (ha:aloneB x=true):x.kind=1∨x.files=[]:=by
 unfold aloneB at ha
 split at ha
 ·rename_i h;exact .inl h
 ·refine .inr ?_
  split at ha
  ·exact List.length_eq_zero_iff.1 (of_decide_eq_true ha)
  ·split at ha
   ·rw [Bool.and_eq_true] at ha
    exact List.length_eq_zero_iff.1 (of_decide_eq_true ha.1)
   ·cases ha
theorem ch_ok:∀ (n:Nat) (f:File) (p:List ByteArray),f.bulk≤n→wrongN n f p=none→∀ z∈preF p f,aloneB z.2=true∧∃ r,z.1=p++r∧∀ m∈r,nameB m.data.toList=true
 | 0,f,p,hn,_,z,_=>by have:=bulk_eq f;omega
 | n+1,f,p,hn,h,z,hz=>by
  replace h:wrongL (wrongN n) p none f.files=none:=h
  obtain ⟨x,hx,hzx⟩:=pr_mem.1 hz
  obtain ⟨h1,h2,h3⟩:=ch_all h x hx
  rcases hzx with rfl | hzx
  ·exact ⟨h2,[x.name],rfl,fun m hm=>by rw [List.mem_singleton.1 hm];exact h1⟩
  ·have hb:=bulk_child hx
   obtain ⟨h4,r,h5,h6⟩:=ch_ok n x (p++[x.name]) (by omega) h3 z hzx
   refine ⟨h4,x.name :: r,by rw [h5,List.append_assoc];rfl,fun m hm => ?_⟩
   rcases List.mem_cons.1 hm with rfl | hm
   ·exact h1
   ·exact h6 m hm
theorem ch_right {t:File} (h:rightT t=true):t.kind=1∧SortF t∧∀ z∈preF [] t,(z.2.kind=1∨z.2.files=[])∧(∀ m∈z.1,nameB m.data.toList=true)∧goP t z.1=(0,some z.2)∧z.1≠[]:=by
 have hs:=right_sort h
 unfold rightT checkR at h
 split at h
 ·rename_i hk
  have hw:wrongN t.bulk t []=none:=by
   cases hw:wrongN t.bulk t [] with
   | none=>rfl
   | some b=>rw [hw] at h;simp [checkO] at h
  have ho:=ch_ok t.bulk t [] (Nat.le_refl _) hw
  refine ⟨hk.1,hs,fun z hz => ?_⟩
  obtain ⟨h1,r,h2,h3⟩:=ho z hz
  obtain ⟨m,s,h4,h5⟩:=pr_goes t.bulk t [] z (Nat.le_refl _) hs (fun y hy=>alone_files (ho y hy).1) (.inl hk.1) hz
  rw [List.nil_append] at h2 h4
  exact ⟨alone_files h1,by rw [h2];exact h3,by rw [h4];exact h5,by rw [h4];simp⟩
 ·simp at h
theorem ch_list:∀ (q:List ByteArray),(shownS q).data.toList=(q.map fun n=>47 :: n.data.toList).flatten:=by
 have h:∀ (q:List ByteArray) (s:ByteArray),(q.foldl (fun s n=>s++(⟨#[47]⟩++n)) s).data.toList=s.data.toList++(q.map fun n=>47 :: n.data.toList).flatten:=by
  intro q
  induction q with
  | nil=>intro s;simp
  | cons n q ih=>intro s;rw [List.foldl_cons,ih];simp [ByteArray.data_append]
 intro q
 unfold shownS
 rw [h]
 rfl
theorem ch_no47 {n:ByteArray} (h:nameB n.data.toList=true):(47:UInt8) ∉ n.data.toList:=by
 intro hm
 unfold nameB at h
 simp only [Bool.and_eq_true,Bool.not_eq_true',List.any_eq_false] at h
 exact h.2 47 hm (by decide)
theorem ch_cut {a b P Q:List UInt8} (ha:(47:UInt8) ∉ a) (hb:(47:UInt8) ∉ b) (hP:P=[]∨∃ r,P=47 :: r) (hQ:Q=[]∨∃ r,Q=47 :: r) (h:a++P=b++Q):a=b∧P=Q:=by
 induction a generalizing b with
 | nil =>
  cases b with
  | nil=>exact ⟨rfl,h⟩
  | cons y b =>
   rcases hP with rfl | ⟨r,rfl⟩
   ·simp at h
   ·simp only [List.nil_append,List.cons_append,List.cons.injEq] at h
    exact absurd (by rw [← h.1];exact List.mem_cons_self) hb
 | cons x a ih =>
  cases b with
  | nil =>
   rcases hQ with rfl | ⟨r,rfl⟩
   ·simp at h
   ·simp only [List.nil_append,List.cons_append,List.cons.injEq] at h
    exact absurd (by rw [h.1];exact List.mem_cons_self) ha
  | cons y b =>
   simp only [List.cons_append,List.cons.injEq] at h
   obtain ⟨h1,h2⟩:=ih (fun h=>ha (List.mem_cons_of_mem _ h)) (fun h=>hb (List.mem_cons_of_mem _ h)) h.2
   exact ⟨by rw [h.1,h1],h2⟩
theorem ch_flat:∀ (p q:List ByteArray),(∀ n∈p,(47:UInt8) ∉ n.data.toList)→(∀ n∈q,(47:UInt8) ∉ n.data.toList)→(p.map fun n=>47 :: n.data.toList).flatten=(q.map fun n=>47 :: n.data.toList).flatten→p=q
 | [],[],_,_,_=>rfl
 | [],y :: q,_,_,h=>by simp at h
 | x :: p,[],_,_,h=>by simp at h
 | x :: p,y :: q,hp,hq,h=>by
  simp only [List.map_cons,List.flatten_cons,List.cons_append,List.cons.injEq,true_and] at h
  have hh:∀ l:List ByteArray,(l.map fun n=>47 :: n.data.toList).flatten=[]∨∃ r,(l.map fun n=>(47:UInt8) :: n.data.toList).flatten=47 :: r:=fun l=>by
   cases l with
   | nil=>exact .inl rfl
   | cons z l=>exact .inr ⟨_,rfl⟩
  obtain ⟨h1,h2⟩:=ch_cut (hp x List.mem_cons_self) (hq y List.mem_cons_self) (hh p) (hh q) h
  have hx:x=y:=ByteArray.ext (Array.toList_inj.1 h1)
  rw [hx,ch_flat p q (fun n h=>hp n (List.mem_cons_of_mem _ h)) (fun n h=>hq n (List.mem_cons_of_mem _ h)) h2]
theorem shown_inj {p q:List ByteArray} (hp:∀ m∈p,nameB m.data.toList=true) (hq:∀ m∈q,nameB m.data.toList=true) (h:shownS p=shownS q):p=q:=by
 refine ch_flat p q (fun n hn=>ch_no47 (hp n hn)) (fun n hn=>ch_no47 (hq n hn)) ?_
 rw [← ch_list,← ch_list,h]
theorem lookQ_cons (y:ByteArray×(Int×ByteArray)) (q:SeenQ) (s:ByteArray):lookQ (y :: q) s=if y.1=s then some y.2 else lookQ q s:=by
 unfold lookQ
 rw [List.find?_cons]
 by_cases h:y.1=s
 ·rw [if_pos h,show decide (y.1=s)=true from decide_eq_true h];rfl
 ·rw [if_neg h,show decide (y.1=s)=false from decide_eq_false h]
theorem lookQ_map1 {s s':ByteArray} (x:Int×ByteArray) (h:s'≠s):∀ q:SeenQ,lookQ (q.map fun y=>if y.1=s then (s,x) else y) s'=lookQ q s'
 | []=>rfl
 | y :: q=>by
  rw [List.map_cons,lookQ_cons,lookQ_cons,lookQ_map1 x h q]
  by_cases h1:y.1=s
  ·rw [if_pos h1]
   simp only
   rw [if_neg (Ne.symm h),if_neg fun e=>h (e.symm.trans h1)]
  ·rw [if_neg h1]
theorem lookQ_map2 (s:ByteArray) (x:Int×ByteArray):∀ q:SeenQ,(lookQ q s).isSome=true→lookQ (q.map fun y=>if y.1=s then (s,x) else y) s=some x
 | [],h=>by cases h
 | y :: q,h=>by
  rw [List.map_cons,lookQ_cons]
  rw [lookQ_cons] at h
  by_cases h1:y.1=s
  ·rw [if_pos h1]
   simp only [if_true]
  ·rw [if_neg h1,if_neg h1]
   rw [if_neg h1] at h
   exact lookQ_map2 s x q h
theorem lookQ_set (q:SeenQ) (s s':ByteArray) (x:Int×ByteArray):lookQ (setQ q s x) s'=if s'=s then some x else lookQ q s':=by
 unfold setQ
 by_cases hs:(lookQ q s).isSome=true
 ·rw [if_pos hs]
  by_cases h2:s'=s
  ·rw [if_pos h2,h2];exact lookQ_map2 s x q hs
  ·rw [if_neg h2];exact lookQ_map1 x h2 q
 ·rw [if_neg hs]
  have go:∀ q:SeenQ,(lookQ q s).isSome≠true→lookQ (q++[(s,x)]) s'=if s'=s then some x else lookQ q s':=by
   intro q
   induction q with
   | nil =>
    intro _
    rw [List.nil_append,lookQ_cons]
    by_cases h2:s'=s
    ·rw [if_pos h2,if_pos h2.symm]
    ·rw [if_neg h2,if_neg fun e=>h2 e.symm]
   | cons y q ih =>
    intro h
    rw [lookQ_cons] at h
    by_cases h1:y.1=s
    ·rw [if_pos h1] at h;exact absurd rfl h
    ·rw [if_neg h1] at h
     rw [List.cons_append,lookQ_cons,lookQ_cons,ih h]
     by_cases h2:s'=s
     ·rw [if_pos h2,if_pos h2,if_neg fun e=>h1 (e.trans h2)]
     ·rw [if_neg h2,if_neg h2]
  exact go q hs
theorem lookQ_del (q:SeenQ) (s s':ByteArray):lookQ (delQ q s) s'=if s'=s then none else lookQ q s':=by
 unfold lookQ delQ
 induction q with
 | nil=>simp
 | cons y q ih =>
  by_cases h1:y.1=s
  ·rw [List.filter_cons_of_neg (by simpa using h1),ih]
   by_cases h2:s'=s
   ·rw [if_pos h2,if_pos h2]
   ·rw [if_neg h2,if_neg h2,List.find?_cons,show decide (y.1=s')=false from decide_eq_false fun e=>h2 (e.symm.trans h1)]
  ·rw [List.filter_cons_of_pos (by simpa using h1),List.find?_cons,List.find?_cons]
   by_cases h3:y.1=s'
   ·have h2:¬ s'=s:=fun e=>h1 (h3.trans e)
    simp [h3,h2]
   ·rw [show decide (y.1=s')=false from decide_eq_false h3]
    exact ih
theorem seenOf_look (l:List (List ByteArray×File)) (s:ByteArray) (x:Int×ByteArray) (hd:∀ y∈l,∀ z∈l,shownS y.1=shownS z.1→y=z):lookQ (seenOf l) s=some x↔∃ y∈l,shownS y.1=s∧(y.2.kind,y.2.data)=x:=by
 have go:∀ (l:List (List ByteArray×File)) (q:SeenQ),lookQ (l.foldl (fun q y=>setQ q (shownS y.1) (y.2.kind,y.2.data)) q) s=match l.reverse.find? (fun y=>decide (shownS y.1=s)) with | some y=>some (y.2.kind,y.2.data) | none=>lookQ q s:=by
  intro l
  induction l with
  | nil=>intro q;rfl
  | cons y l ih =>
   intro q
   rw [List.foldl_cons,ih,List.reverse_cons,List.find?_append]
   cases hf:l.reverse.find? (fun y=>decide (shownS y.1=s)) with
   | some z=>simp
   | none =>
    simp only [Option.none_or,List.find?_cons,List.find?_nil]
    rw [lookQ_set]
    by_cases h:shownS y.1=s
    ·rw [if_pos h.symm];simp [h]
    ·rw [if_neg fun e=>h e.symm];simp [h]
 unfold seenOf
 rw [go l []]
 cases hf:l.reverse.find? (fun y=>decide (shownS y.1=s)) with
 | some z =>
  have hz:z∈l:=List.mem_reverse.1 (List.mem_of_find?_eq_some hf)
  have hzs:shownS z.1=s:=by simpa using List.find?_some hf
  constructor
  ·intro h
   injection h with h
   exact ⟨z,hz,hzs,h⟩
  ·rintro ⟨y,hy,hys,rfl⟩
   rw [hd y hy z hz (hys.trans hzs.symm)]
 | none =>
  constructor
  ·intro h;cases h
  ·rintro ⟨y,hy,hys,rfl⟩
   have:=List.find?_eq_none.1 hf y (List.mem_reverse.2 hy)
   exact absurd hys (by simpa using this)
theorem chgB_look (q:SeenQ) (l:List (List ByteArray×File)) (s:ByteArray):lookQ (chgB q l).1 s=if ∃ y∈l,shownS y.1=s then none else lookQ q s:=by
 have go:∀ (l:List (List ByteArray×File)) (st:SeenQ×List (List ByteArray)),lookQ (l.foldl chgStep st).1 s=if ∃ y∈l,shownS y.1=s then none else lookQ st.1 s:=by
  intro l
  induction l with
  | nil=>intro st;simp
  | cons y l ih =>
   intro st
   rw [List.foldl_cons,ih]
   by_cases h1:∃ z∈l,shownS z.1=s
   ·rw [if_pos h1,if_pos (by obtain ⟨z,hz,h⟩:=h1;exact ⟨z,List.mem_cons_of_mem _ hz,h⟩)]
   ·rw [if_neg h1]
    simp only [chgStep]
    rw [lookQ_del]
    by_cases h2:s=shownS y.1
    ·rw [if_pos h2,if_pos ⟨y,List.mem_cons_self,h2.symm⟩]
    ·rw [if_neg h2,if_neg]
     rintro ⟨z,hz,h⟩
     rcases List.mem_cons.1 hz with rfl | hz
     ·exact h2 h.symm
     ·exact h1 ⟨z,hz,h⟩
 exact go l (q,[])
theorem chgB_out (q:SeenQ):∀ (l:List (List ByteArray×File)),l.Pairwise (fun a b=>shownS a.1≠shownS b.1)→∀ p,p∈(chgB q l).2↔∃ y∈l,y.1=p∧lookQ q (shownS y.1)≠some (y.2.kind,y.2.data):=by
 have go:∀ (l:List (List ByteArray×File)) (st:SeenQ×List (List ByteArray)),l.Pairwise (fun a b=>shownS a.1≠shownS b.1)→∀ p,p∈(l.foldl chgStep st).2↔p∈st.2∨∃ y∈l,y.1=p∧lookQ st.1 (shownS y.1)≠some (y.2.kind,y.2.data):=by
  intro l
  induction l with
  | nil=>intro st _ p;simp
  | cons y l ih =>
   intro st hp p
   rw [List.pairwise_cons] at hp
   rw [List.foldl_cons,ih _ hp.2]
   have hsame:∀ z∈l,lookQ (chgStep st y).1 (shownS z.1)=lookQ st.1 (shownS z.1):=fun z hz=>by
    simp only [chgStep]
    rw [lookQ_del,if_neg fun e=>hp.1 z hz e.symm]
   constructor
   ·rintro (h | ⟨z,hz,h1,h2⟩)
    ·simp only [chgStep] at h
     split at h
     ·exact .inl h
     ·rename_i hne
      rcases List.mem_append.1 h with h | h
      ·exact .inl h
      ·exact .inr ⟨y,List.mem_cons_self,(List.mem_singleton.1 h).symm,hne⟩
    ·rw [hsame z hz] at h2
     exact .inr ⟨z,List.mem_cons_of_mem _ hz,h1,h2⟩
   ·rintro (h | ⟨z,hz,h1,h2⟩)
    ·refine .inl ?_
     simp only [chgStep]
     split
     ·exact h
     ·exact List.mem_append_left _ h
    ·rcases List.mem_cons.1 hz with rfl | hz
     ·refine .inl ?_
      simp only [chgStep]
      rw [if_neg h2]
      exact List.mem_append_right _ (by rw [h1];exact List.mem_singleton.2 rfl)
     ·exact .inr ⟨z,hz,h1,by rw [hsame z hz];exact h2⟩
 intro l hl p
 have:=go l (q,[]) hl p
 simpa [chgB] using this
theorem chgR_iff (q:SeenQ) (o:List (List ByteArray)) (l:List (List ByteArray×File)) (p:List ByteArray):p∈chgR q o l↔p∈o∨∃ y∈l,y.1=p∧(lookQ q (shownS y.1)).isSome=true:=by
 refine ⟨chgR_mem q o l p,?_⟩
 unfold chgR
 induction l generalizing o with
 | nil=>rintro (h | ⟨y,hy,_⟩);exact h;cases hy
 | cons y l ih =>
  intro h
  rw [List.foldl_cons]
  refine ih _ ?_
  rcases h with h | ⟨z,hz,h1,h2⟩
  ·refine .inl ?_
   split
   ·exact List.mem_append_left _ h
   ·exact h
  ·rcases List.mem_cons.1 hz with rfl | hz
   ·exact .inl (by rw [if_pos h2];exact List.mem_append_right _ (by rw [h1];exact List.mem_singleton.2 rfl))
   ·exact .inr ⟨z,hz,h1,h2⟩
theorem pr_apart {t:File} (h:rightT t=true):(∀ y∈preF [] t,∀ z∈preF [] t,shownS y.1=shownS z.1→y=z)∧(preF [] t).Pairwise (fun a b=>shownS a.1≠shownS b.1):=by
 obtain ⟨_,hs,hz⟩:=ch_right h
 refine ⟨fun y hy z hz' e => ?_,?_⟩
 ·have h1:=shown_inj (hz y hy).2.1 (hz z hz').2.1 e
  have h2:=(hz y hy).2.2.1
  rw [h1,(hz z hz').2.2.1] at h2
  injection h2 with _ h2
  injection h2 with h2
  exact Prod.ext h1 h2.symm
 ·have hp:=(pr_sorted t.bulk t [] (Nat.le_refl _) hs).1
  refine hp.imp_of_mem fun {a b} ha hb hlt e => ?_
  rw [shown_inj (hz a ha).2.1 (hz b hb).2.1 e,cmp_self] at hlt
  omega
theorem chg_iff {t u:File} (ht:rightT t=true) (hu:rightT u=true) (p:List ByteArray):p∈chgL t u↔lookK t p≠lookK u p:=by
 obtain ⟨hkt,hst,hzt⟩:=ch_right ht
 obtain ⟨hku,hsu,hzu⟩:=ch_right hu
 obtain ⟨hdt,hpt⟩:=pr_apart ht
 obtain ⟨hdu,hpu⟩:=pr_apart hu
 have inT:∀ {r y},goP t r=(0,some y)→r≠[]→(r,y)∈preF [] t:=fun {r y} h h0=>by
  cases r with
  | nil=>exact absurd rfl h0
  | cons m s=>exact go_pr s m t y [] 0 hst h
 have inU:∀ {r y},goP u r=(0,some y)→r≠[]→(r,y)∈preF [] u:=fun {r y} h h0=>by
  cases r with
  | nil=>exact absurd rfl h0
  | cons m s=>exact go_pr s m u y [] 0 hsu h
 unfold chgL
 rw [chgR_iff,chgB_out _ _ hpu]
 constructor
 ·rintro (⟨y,hy,rfl,h⟩ | ⟨y,hy,rfl,h⟩) e
  ·rw [look_go (hzu y hy).2.2.1] at e
   obtain ⟨z,hz,hzx⟩:=look_some e
   refine h ((seenOf_look _ _ _ hdt).2 ⟨(y.1,z),inT hz (hzu y hy).2.2.2,rfl,hzx.symm⟩)
  ·rw [chgB_look] at h
   split at h
   ·cases h
   ·rename_i hno
    rw [look_go (hzt y hy).2.2.1] at e
    obtain ⟨z,hz,hzx⟩:=look_some e.symm
    exact hno ⟨(y.1,z),inU hz (hzt y hy).2.2.2,rfl⟩
 ·intro hne
  have h0:p≠[]:=by
   rintro rfl
   refine hne ?_
   rw [look_go (k:=0) (y:=t) (by rw [goP]),look_go (k:=0) (y:=u) (by rw [goP]),hkt,hku]
   have hd:∀ {f:File},rightT f=true→f.data=⟨#[]⟩:=fun {f} h=>by
    unfold rightT checkR at h
    split at h
    ·rename_i hk
     have h1:=hk.2.2
     rw [List.isEmpty_iff,Lib.toList_data] at h1
     exact ByteArray.ext (Array.toList_inj.1 h1)
    ·simp at h
   rw [hd ht,hd hu]
  cases hlu:lookK u p with
  | some x =>
   obtain ⟨y,hy,hyx⟩:=look_some hlu
   refine .inl ⟨(p,y),inU hy h0,rfl,fun e=>hne ?_⟩
   obtain ⟨z,hz,hzs,hzx⟩:=(seenOf_look _ _ _ hdt).1 e
   have hzp:z.1=p:=shown_inj (hzt z hz).2.1 (hzu _ (inU hy h0)).2.1 hzs
   rw [hlu,hyx,← hzp,look_go (hzt z hz).2.2.1,hzx]
  | none =>
   cases hlt:lookK t p with
   | none=>exact absurd (hlt.trans hlu.symm) hne
   | some x =>
    obtain ⟨y,hy,hyx⟩:=look_some hlt
    refine .inr ⟨(p,y),inT hy h0,rfl,?_⟩
    rw [chgB_look,if_neg]
    ·rw [(seenOf_look _ _ (y.kind,y.data) hdt).2 ⟨(p,y),inT hy h0,rfl,rfl⟩]
     rfl
    ·rintro ⟨z,hz,hzs⟩
     have hzp:z.1=p:=shown_inj (hzu z hz).2.1 (hzt _ (inT hy h0)).2.1 hzs
     rw [← hzp,look_go (hzu z hz).2.2.1] at hlu
     cases hlu
end Go.Proofs.YtdnhjnlhmfajnaaGreatDoor.G
end
section
section
namespace Go.Proofs.YtdnhjnlhmfajnaaGreatDoor.G
open Go.RowKit Go.Lib Go.Proofs.YtdnhjnlhmfajnaaGreatDoorW.PrintWords Go.Proofs.YtdnhjnlhmfajnaaGreatDoorW.PrintLast
set_option linter.unusedVariables false
set_option linter.unusedSimpArgs false
theorem go_findR:∀ (p:List ByteArray) (t:File),SortF t→goP t p=if (findR t p).2=0 then (0,some (findR t p).1) else ((findR t p).2,none)
 | [],t,hs=>by rw [goP,findR];rfl
 | n :: p,t,hs=>by
  rw [goP_find hs,findR]
  split
  ·cases hx:t.files.find? (nameIs n) with
   | none=>rfl
   | some x =>
    simp only
    rw [SortF_eq] at hs
    exact go_findR p x (SortL_mem.1 hs.2 x (List.mem_of_find?_eq_some hx))
  ·rfl
end Go.Proofs.YtdnhjnlhmfajnaaGreatDoor.G
end
section
namespace Go.Proofs.YtdnhjnlhmfajnaaGreatDoor.G
open Go.RowKit Go.Lib Go.Proofs.YtdnhjnlhmfajnaaGreatDoorW.PrintWords Go.Proofs.YtdnhjnlhmfajnaaGreatDoorW.PrintLast
set_option linter.unusedVariables false
set_option linter.unusedSimpArgs false
def strictP:List (List ByteArray)→Prop:=List.Pairwise fun x y=>cmpP x y<0
def pathsOf (t:File):List (List ByteArray):=(preF [] t).map (·.1)
theorem cmp_irr {p:List ByteArray} (h:cmpP p p<0):False:=by rw [cmp_self] at h;omega
theorem cmp_lt {a b c:List ByteArray} (h1:cmpP a b<0) (h2:cmpP b c<0):cmpP a c<0:=cmp_lt_trans h1 (by omega)
theorem strict_eq:∀ {s r:List (List ByteArray)},strictP s→strictP r→(∀ p,p∈s↔p∈r)→s=r
 | [],[],_,_,_=>rfl
 | [],y :: r,_,_,h=>by have:=(h y).2 List.mem_cons_self;cases this
 | x :: s,[],_,_,h=>by have:=(h x).1 List.mem_cons_self;cases this
 | x :: s,y :: r,hs,hr,h=>by
  obtain ⟨hs1,hs2⟩:=List.pairwise_cons.1 hs
  obtain ⟨hr1,hr2⟩:=List.pairwise_cons.1 hr
  have hxy:x=y:=by
   rcases List.mem_cons.1 ((h x).1 List.mem_cons_self) with e | e
   ·exact e
   ·rcases List.mem_cons.1 ((h y).2 List.mem_cons_self) with e2 | e2
    ·exact e2.symm
    ·exact absurd (cmp_lt (hs1 y e2) (hr1 x e)) cmp_irr
  subst hxy
  rw [strict_eq hs2 hr2 fun p=>⟨fun hp=>(List.mem_cons.1 ((h p).1 (List.mem_cons_of_mem _ hp))).resolve_left fun e=>by subst e;exact cmp_irr (hs1 _ hp),fun hp=>(List.mem_cons.1 ((h p).2 (List.mem_cons_of_mem _ hp))).resolve_left fun e=>by subst e;exact cmp_irr (hr1 _ hp)⟩]
theorem strict_nodup {s:List (List ByteArray)} (h:strictP s):s.Nodup:=h.imp fun {a b} hab e=>by subst e;exact cmp_irr hab
theorem sorted_strict {s:List (List ByteArray)} (h:sortedP s) (hn:s.Nodup):strictP s:=by
 have:=List.Pairwise.and h hn
 refine this.imp fun {a b} hab => ?_
 rcases Int.lt_or_le (cmpP a b) 0 with h1 | h1
 ·exact h1
 ·exact absurd (cmp_zero.1 (by have:=hab.1;omega)) hab.2
theorem paths_strict {t:File} (h:rightT t=true):strictP (pathsOf t):=by
 unfold strictP pathsOf
 rw [List.pairwise_map]
 exact (pr_sorted t.bulk t [] (Nat.le_refl _) (ch_right h).2.1).1
theorem chgB_sub (q:SeenQ) (l:List (List ByteArray×File)):List.Sublist (chgB q l).2 (l.map (·.1)):=by
 have go:∀ (l:List (List ByteArray×File)) (st:SeenQ×List (List ByteArray)),List.Sublist (l.foldl chgStep st).2 (st.2++l.map (·.1)):=by
  intro l
  induction l with
  | nil=>intro st;simp
  | cons y l ih =>
   intro st
   rw [List.foldl_cons]
   refine (ih (chgStep st y)).trans ?_
   simp only [chgStep,List.map_cons]
   split
   ·exact List.Sublist.append (List.Sublist.refl _) (List.sublist_cons_self _ _)
   ·rw [List.append_assoc];exact List.Sublist.refl _
 have:=go l (q,[])
 simpa [chgB] using this
theorem chgR_eq (q:SeenQ) (o:List (List ByteArray)) (l:List (List ByteArray×File)):chgR q o l=o++(l.filter fun y=>(lookQ q (shownS y.1)).isSome).map (·.1):=by
 unfold chgR
 induction l generalizing o with
 | nil=>simp
 | cons y l ih =>
  rw [List.foldl_cons,ih]
  by_cases h:(lookQ q (shownS y.1)).isSome=true
  ·rw [if_pos h,List.filter_cons_of_pos (by simpa using h),List.map_cons,List.append_assoc];rfl
  ·rw [if_neg h,List.filter_cons_of_neg (by simpa using h)]
theorem chg_nodup {t u:File} (ht:rightT t=true) (hu:rightT u=true):(chgL t u).Nodup:=by
 have n1:=strict_nodup (paths_strict ht)
 have n2:=strict_nodup (paths_strict hu)
 unfold chgL
 rw [chgR_eq,List.nodup_append]
 refine ⟨(chgB_sub _ _).nodup n2,?_,?_⟩
 ·refine List.Nodup.sublist ?_ n1
  exact List.Sublist.map _ List.filter_sublist
 ·intro p hp r hr e
  subst e
  obtain ⟨y,hy,hyp⟩:=List.mem_map.1 hr
  have hyl:=(List.mem_filter.1 hy).2
  obtain ⟨z,hz,hzp⟩:=List.mem_map.1 ((chgB_sub _ _).subset hp)
  rw [chgB_look,if_pos ⟨z,hz,by rw [hzp,hyp]⟩] at hyl
  simp at hyl
def mrgP:List (List ByteArray)→List (List ByteArray)→List (List ByteArray)
 | [],ys=>ys
 | x :: xs,[]=>x :: xs
 | x :: xs,y :: ys=>if cmpP y x<0 then y :: mrgP (x :: xs) ys else if x=y then x :: mrgP xs ys else x :: mrgP xs (y :: ys)
termination_by xs ys=>xs.length+ys.length
theorem mrg_mem:∀ (xs ys:List (List ByteArray)) (p:List ByteArray),p∈mrgP xs ys↔p∈xs∨p∈ys
 | [],ys,p=>by rw [mrgP];simp
 | x :: xs,[],p=>by rw [mrgP];simp
 | x :: xs,y :: ys,p=>by
  rw [mrgP]
  split
  ·rw [List.mem_cons,mrg_mem (x :: xs) ys p]
   simp only [List.mem_cons]
   constructor
   ·rintro (h | h | h)
    ·exact .inr (.inl h)
    ·exact .inl h
    ·exact .inr (.inr h)
   ·rintro (h | h | h)
    ·exact .inr (.inl h)
    ·exact .inl h
    ·exact .inr (.inr h)
  ·split
   ·rename_i _ e
    rw [List.mem_cons,mrg_mem xs ys p]
    simp only [List.mem_cons]
    rw [← e]
    constructor
    ·rintro (h | h | h)
     ·exact .inl (.inl h)
     ·exact .inl (.inr h)
     ·exact .inr (.inr h)
    ·rintro ((h | h) | h | h)
     ·exact .inl h
     ·exact .inr (.inl h)
     ·exact .inl h
     ·exact .inr (.inr h)
   ·rw [List.mem_cons,mrg_mem xs (y :: ys) p]
    simp only [List.mem_cons,or_assoc]
termination_by xs ys=>xs.length+ys.length
theorem mrg_strict:∀ (xs ys:List (List ByteArray)),strictP xs→strictP ys→strictP (mrgP xs ys)
 | [],ys,_,h=>by rw [mrgP];exact h
 | x :: xs,[],h,_=>by rw [mrgP];exact h
 | x :: xs,y :: ys,hx,hy=>by
  obtain ⟨hx1,hx2⟩:=List.pairwise_cons.1 hx
  obtain ⟨hy1,hy2⟩:=List.pairwise_cons.1 hy
  rw [mrgP]
  split
  ·rename_i h
   refine List.pairwise_cons.2 ⟨fun p hp => ?_,mrg_strict (x :: xs) ys hx hy2⟩
   rcases (mrg_mem _ _ _).1 hp with hp | hp
   ·rcases List.mem_cons.1 hp with rfl | hp
    ·exact h
    ·exact cmp_lt h (hx1 p hp)
   ·exact hy1 p hp
  ·rename_i h
   split
   ·rename_i e
    refine List.pairwise_cons.2 ⟨fun p hp => ?_,mrg_strict xs ys hx2 hy2⟩
    rcases (mrg_mem _ _ _).1 hp with hp | hp
    ·exact hx1 p hp
    ·rw [e];exact hy1 p hp
   ·rename_i e
    have hlt:cmpP x y<0:=by
     rcases Int.lt_or_le (cmpP x y) 0 with h1 | h1
     ·exact h1
     ·have h2:=cmp_anti y x
      exact absurd (cmp_zero.1 (show cmpP x y=0 by omega)) e
    refine List.pairwise_cons.2 ⟨fun p hp => ?_,mrg_strict xs (y :: ys) hx2 hy⟩
    rcases (mrg_mem _ _ _).1 hp with hp | hp
    ·exact hx1 p hp
    ·rcases List.mem_cons.1 hp with rfl | hp
     ·exact hlt
     ·exact cmp_lt hlt (hy1 p hp)
termination_by xs ys=>xs.length+ys.length
def alikeB (a b:File) (p:List ByteArray):Bool:=decide ((findR a p).2=0) && (decide ((findR b p).2=0) && (decide ((findR a p).1.kind=(findR b p).1.kind) && decide ((findR a p).1.data=(findR b p).1.data)))
theorem look_findR {t:File} (hs:SortF t) (p:List ByteArray):lookK t p=if (findR t p).2=0 then some ((findR t p).1.kind,(findR t p).1.data) else none:=by
 unfold lookK
 rw [go_findR p t hs]
 by_cases h:(findR t p).2=0
 ·rw [if_pos h,if_pos h]
 ·rw [if_neg h,if_neg h]
theorem alike_look {a b:File} (ha:SortF a) (hb:SortF b) (p:List ByteArray):alikeB a b p=true↔lookK a p=lookK b p∧(lookK a p).isSome=true:=by
 rw [look_findR ha,look_findR hb]
 unfold alikeB
 simp only [Bool.and_eq_true,decide_eq_true_eq]
 by_cases h1:(findR a p).2=0
 ·rw [if_pos h1]
  by_cases h2:(findR b p).2=0
  ·rw [if_pos h2]
   simp [h1,h2]
  ·rw [if_neg h2]
   simp [h2]
 ·rw [if_neg h1]
  simp [h1]
def rchgL (a b:File):List (List ByteArray):=(mrgP (pathsOf a) (pathsOf b)).filter fun p => !alikeB a b p
theorem rchg_iff {a b:File} (ha:rightT a=true) (hb:rightT b=true) (p:List ByteArray):p∈rchgL a b↔lookK a p≠lookK b p:=by
 obtain ⟨_,hsa,hza⟩:=ch_right ha
 obtain ⟨_,hsb,hzb⟩:=ch_right hb
 unfold rchgL
 rw [List.mem_filter,mrg_mem]
 constructor
 ·rintro ⟨h,hn⟩ e
  have hn':¬ alikeB a b p=true:=by simpa using hn
  refine hn' ((alike_look hsa hsb p).2 ⟨e,?_⟩)
  rcases h with h | h
  ·obtain ⟨y,hy,rfl⟩:=List.mem_map.1 h
   rw [look_go (hza y hy).2.2.1];rfl
  ·obtain ⟨y,hy,rfl⟩:=List.mem_map.1 h
   rw [e,look_go (hzb y hy).2.2.1];rfl
 ·intro h
  refine ⟨?_,by simpa using fun hal:alikeB a b p=true=>h ((alike_look hsa hsb p).1 hal).1⟩
  have hm:=(chg_iff ha hb p).2 h
  unfold chgL at hm
  rw [chgR_iff,chgB_out _ _ (pr_apart hb).2] at hm
  rcases hm with ⟨y,hy,rfl,_⟩ | ⟨y,hy,rfl,_⟩
  ·exact .inr (List.mem_map.2 ⟨y,hy,rfl⟩)
  ·exact .inl (List.mem_map.2 ⟨y,hy,rfl⟩)
theorem rchg_strict {a b:File} (ha:rightT a=true) (hb:rightT b=true):strictP (rchgL a b):=List.Pairwise.sublist List.filter_sublist (mrg_strict _ _ (paths_strict ha) (paths_strict hb))
theorem chg_ref {a b:File} (ha:rightT a=true) (hb:rightT b=true) {s:List (List ByteArray)} (hp:s.Perm (chgL a b)) (hs:sortedP s):s=rchgL a b :=
 strict_eq (sorted_strict hs (hp.nodup_iff.2 (chg_nodup ha hb))) (rchg_strict ha hb) fun p=>by rw [hp.mem_iff,chg_iff ha hb,rchg_iff ha hb]
end Go.Proofs.YtdnhjnlhmfajnaaGreatDoor.G
end
end
section
namespace Go.Proofs.YtdnhjnlhmfajnaaGreatDoor.G
open Go.RowKit Go.Lib Go.Proofs.YtdnhjnlhmfajnaaGreatDoorW.PrintWords Go.Proofs.YtdnhjnlhmfajnaaGreatDoorW.PrintLast
set_option linter.unusedVariables false
set_option linter.unusedSimpArgs false
theorem path_atC {w:World} {A:Option Addr} {ll:List (List ByteArray)} (h:Kd.C PathK w A ll.length ll) (k:Nat) (hk:k<ll.length) :
  ∃ ad A' c',A=some ad∧w.cell? (ad.add k)=some (.slice A' ll[k].length c')∧ll[k].length≤c'∧Kd.C Kd.string w A' ll[k].length ll[k]:=by
 obtain ⟨ad,e,hc⟩:=h.2.2 (by omega)
 obtain ⟨cs,_,⟨A',c',rfl,h1,h2⟩,h3⟩:=hc k _ (List.getElem?_eq_getElem hk)
 have h4:=h3 0 _ rfl
 rw [show k * PathK.sz+0=k by show k * 1+0=k;omega] at h4
 exact ⟨ad,A',c',e,h4,h1,h2⟩
theorem kept_boundC (f:File):∀ x∈keptL [] f,x.1.length≤f.bulk:=by
 intro x hx
 obtain ⟨y,hy,rfl⟩:=List.mem_map.1 hx
 have:=(preF_bound f [] y hy).2
 have:=bulk_eq f
 simp only [keptE,List.length_nil] at *
 omega
theorem kept_countC (f:File):(keptL [] f).length≤f.bulk:=by
 rw [keptL,List.length_map]
 have:=preF_count f []
 have:=bulk_eq f
 omega
theorem kept_pathsC (f:File):(keptL [] f).map (·.1)=pathsOf f:=by
 unfold keptL pathsOf
 rw [List.map_map]
 rfl
theorem path_FKC {W:World} {ok:Nat→Prop} {B:Option Addr} {d:Nat} {p:List ByteArray} (h:Kd.F Kd.string W ok B p.length p) (hd:p.length≤d):Kd.FK PathK W ok p [.slice B p.length d] :=
 fun W' hW=>⟨B,d,rfl,hd,h W' hW⟩
theorem kept_pop {W:World} {ad:Addr} {x:List ByteArray×(Int×Int)} {l:List (List ByteArray×(Int×Int))} {c:Nat} (h:KeptK.C W (some ad) (x :: l).length (x :: l)) (hc:(x :: l).length≤c) :
  (c=1→KeptK.C W (some ad) l.length l)∧(¬ c=1→KeptK.C W (some ⟨ad.block,ad.off+3,none⟩) l.length l):=by
 have h1:=Kd.C_drop (c:=c) h (m:=1) (by simp) hc
 rw [show (x :: l).drop 1=l from rfl] at h1
 refine ⟨fun e=>by rw [if_pos e] at h1;exact h1,fun e => ?_⟩
 rw [if_neg e] at h1
 have h2:=add_field ad 0 3 (by omega)
 have h3:ad.add 0=ad:=by simp [Addr.add]
 rw [h3,Nat.zero_add] at h2
 rw [← h2]
 exact h1
theorem kept_atC {w:World} {A:Option Addr} {x:List ByteArray×(Int×Int)} {l:List (List ByteArray×(Int×Int))} (h:KeptK.C w A (x :: l).length (x :: l)) :
  ∃ ad B d,A=some ad∧w.cell? ad=some (.slice B x.1.length d)∧w.cell? ⟨ad.block,ad.off+1,none⟩=some (.int .u8 x.2.1)∧w.cell? ⟨ad.block,ad.off+2,none⟩=some (.int .i64 x.2.2)∧x.1.length≤d∧Kd.C Kd.string w B x.1.length x.1:=by
 obtain ⟨ad,B,d,h1,h2,h3,h4,h5,h6⟩:=kept_at h 0 (by simp)
 exact ⟨ad,B,d,h1,by simpa [Addr.add] using h2,by simpa [Addr.add] using h3,by simpa [Addr.add] using h4,h5,h6⟩
def bmC (n m:Nat):Array Bool:=((List.range n).map (fun j=>m.testBit j)).toArray
set_option maxHeartbeats 8000000 in
set_option maxRecDepth 100000 in
theorem ralike_calls (a b:File) (A B:Option Addr) (c d:Nat) (Ap:Option Addr) (cp:Nat) (p:List ByteArray) (w:World) (ha:FileK.C w A a.files.length a.files) (hca:a.files.length≤c) (hb:FileK.C w B b.files.length b.files) (hcb:b.files.length≤d) (hba:a.bulk≤1099511627776) (hbb:b.bulk≤1099511627776) (hp:Kd.C Kd.string w Ap p.length p) (hcp:p.length≤cp) (hpl:p.length≤1099511627776) :
  Calls Tryz.prog 76 #[fileV a A c,fileV b B d,.slice Ap p.length cp] w fun e w'=>e=.returned (.bool (alikeB a b p))∧Below w.heap.size w w':=by
 have h2:=two_boxes w (fc a A c) (fc b B d) 25 25
 have hb0:=((Below.refl w.heap.size w).alloc (Nat.le_refl _) (.cells (fc a A c) 25)).alloc (by simp) (.cells (fc b B d) 25)
 have I:=Lib.hid (Hd.base hb0 (by first | exact Nat.le_refl _ | exact Below.size hb0))
 replace I:=Lib.hid (Hd.and I.out (Hd.box (h2.1)))
 replace I:=Lib.hid (Hd.and I.out (Hd.box (h2.2)))
 replace I:=Lib.hid (Hd.and I.out (Hd.reads (Kd.C_below ha hb0)))
 replace I:=Lib.hid (Hd.and I.out (Hd.reads (Kd.C_below hb hb0)))
 replace I:=Lib.hid (Hd.and I.out (Hd.reads (Kd.C_below hp hb0)))
 obtain ⟨r,hr⟩:∃ r,alikeB a b p=r:=⟨_,rfl⟩
 rw [hr]
 unfold alikeB at hr
 have HR:=Lib.hid hr
 clear h2 ha hb hp hr
 go_enter Tryz.func76,Tryz.ntmps76
 unfold fileV
 obtain ⟨la0,la1,la2,la3⟩:=c4A I.out.now.2.2.2.2.1
 go_wp2_with fail
 clear la0 la1 la2 la3
 generalize ((w.alloc (.cells (fc a A c) 25)).alloc (.cells (fc b B d) 25))=W0 at *
 refine ((show Calls Tryz.prog 56 #[.agg (fc a A c),.slice Ap p.length cp] _ _ from rfind_calls a A c Ap cp p _ I.out.now.2.2.1 hca (by omega) I.out.now.1 hcp (by omega))).mono ?_
 rintro e w1 ⟨Af1,cf1,rfl,hcf1,-,hq1⟩
 replace I:=Lib.hid (Hd.mv I.out hq1)
 obtain ⟨⟨f1,kf1⟩,hg⟩:∃ g,findR a p=g:=⟨_,rfl⟩
 have hrr:=HR.out
 rw [hg] at hrr
 replace HR:=Lib.hid hrr
 rw [hg] at hcf1 ⊢
 simp only at hcf1 ⊢
 clear hg hrr
 have ha2:=below_alloc (Below.refl w1.heap.size w1) (.cells (fc f1 Af1 cf1) 25)
 replace I:=Lib.hid (Hd.mv I.out ha2)
 replace I:=Lib.hid (Hd.and I.out (Hd.box (blk_new w1 (.cells (fc f1 Af1 cf1) 25))))
 obtain ⟨lb0,lb1,lb2,lb3⟩:=c4A I.out.now.2.2.2.2.1
 go_wp2_with fail
 clear lb0 lb1 lb2 lb3
 generalize (w1.alloc (.cells (fc f1 Af1 cf1) 25))=W2 at *
 refine ((show Calls Tryz.prog 56 #[.agg (fc b B d),.slice Ap p.length cp] _ _ from rfind_calls b B d Ap cp p _ I.out.now.2.2.1 hcb (by omega) I.out.now.2.1 hcp (by omega))).mono ?_
 rintro e w3 ⟨Af2,cf2,rfl,hcf2,-,hq3⟩
 replace I:=Lib.hid (Hd.mv I.out hq3)
 obtain ⟨⟨f2,kf2⟩,hg⟩:∃ g,findR b p=g:=⟨_,rfl⟩
 have hrr:=HR.out
 rw [hg] at hrr
 replace HR:=Lib.hid hrr
 rw [hg] at hcf2 ⊢
 simp only at hcf2 ⊢
 clear hg hrr
 have ha4:=below_alloc (Below.refl w3.heap.size w3) (.cells (fc f2 Af2 cf2) 25)
 replace I:=Lib.hid (Hd.mv I.out ha4)
 replace I:=Lib.hid (Hd.and I.out (Hd.box (blk_new w3 (.cells (fc f2 Af2 cf2) 25))))
 obtain ⟨lx0,lx1,lx2,lx3⟩:=c4A I.out.now.2.1
 obtain ⟨ly0,ly1,ly2,ly3⟩:=c4A I.out.now.1
 have HB9:=I.out.now.2.2.2.2.2.2.2
 by_cases q1:kf1=0
 rotate_left
 ·have z1:(kf1 == 0)=false:=beq_eq_false_iff_ne.2 q1
  have hrr:=HR.out
  rw [decide_eq_false q1,Bool.false_and] at hrr
  have HR2:=Lib.hid hrr
  clear hrr q1
  go_wp2_with fail
  go_ret
  exact ⟨by rw [← HR2.out];rfl,HB9⟩
 have z1:(kf1 == 0)=true:=beq_iff_eq.2 q1
 by_cases q2:kf2=0
 rotate_left
 ·have z2:(kf2 == 0)=false:=beq_eq_false_iff_ne.2 q2
  have hrr:=HR.out
  rw [decide_eq_false q2,Bool.false_and,Bool.and_false] at hrr
  have HR2:=Lib.hid hrr
  clear hrr q1 q2
  go_wp2_with fail
  go_ret
  exact ⟨by rw [← HR2.out];rfl,HB9⟩
 have z2:(kf2 == 0)=true:=beq_iff_eq.2 q2
 by_cases q3:f1.kind=f2.kind
 rotate_left
 ·have z3:(f1.kind == f2.kind)=false:=beq_eq_false_iff_ne.2 q3
  have hrr:=HR.out
  simp only at hrr
  rw [decide_eq_false q3,Bool.false_and,Bool.and_false,Bool.and_false] at hrr
  have HR2:=Lib.hid hrr
  clear hrr q1 q2 q3
  go_wp2_with fail
  go_ret
  exact ⟨by rw [← HR2.out];rfl,HB9⟩
 have z3:(f1.kind == f2.kind)=true:=beq_iff_eq.2 q3
 have hrr:=HR.out
 simp only at hrr
 rw [decide_eq_true q1,decide_eq_true q2,decide_eq_true q3,Bool.true_and,Bool.true_and,Bool.true_and] at hrr
 by_cases q4:f1.data=f2.data
 ·have z4:(f1.data.toList == f2.data.toList)=true:=beq_iff_eq.2 (toList_inj.2 q4)
  rw [decide_eq_true q4] at hrr
  have HR2:=Lib.hid hrr
  clear hrr q1 q2 q3 q4
  go_wp2_with fail
  go_ret
  exact ⟨by rw [← HR2.out];rfl,HB9⟩
 ·have z4:(f1.data.toList == f2.data.toList)=false:=beq_eq_false_iff_ne.2 (fun h=>q4 (toList_inj.1 h))
  rw [decide_eq_false q4] at hrr
  have HR2:=Lib.hid hrr
  clear hrr q1 q2 q3 q4
  go_wp2_with fail
  go_ret
  exact ⟨by rw [← HR2.out];rfl,HB9⟩
set_option maxHeartbeats 8000000 in
set_option maxRecDepth 100000 in
theorem lpaths_calls (A:Option Addr) (c:Nat) (a:List (List ByteArray)) (B:Option Addr) (d:Nat) (w:World) (hr:Kd.C PathK w A a.length a) (hc:a.length≤c) (hs:Kd.C PathK w B a.length a) (hd:a.length≤d) (hl:a.length≤8796093022208) (hpl:∀ x∈a,x.length≤8796093022208) :
  Calls Tryz.prog 20 #[.slice A a.length c,.slice B a.length d] w fun e w'=>e=.returned (.bool true)∧Below w.heap.size w w':=by
 have HR:=Lib.hid hr
 have HS:=Lib.hid hs
 have HPL:=Lib.hid hpl
 clear hr hs hpl
 have hz:((a.length:Int) != (a.length:Int))=false:=by simp
 go_enter Tryz.func20,Tryz.ntmps20
 go_wp2_with fail
 go_loopw [13] (fun i wr=>∃ k:Nat,k≤a.length∧i=.int .i64 k∧Below w.heap.size w wr) (fun i _=>a.length - (RowKit.intOf i).toNat)
 case atStart=>exact ⟨0,by omega,rfl,Below.refl _ _⟩
 case round =>
  obtain ⟨k,hk,rfl,hb⟩:=hrel
  have HB:=Lib.hid hb
  by_cases q1:k<a.length
  ·obtain ⟨ad,A1,c1,rfl,hx,hc1,hC1⟩:=path_atC HR.out k q1
   obtain ⟨bd,B1,d1,rfl,hy,hc2,hC2⟩:=path_atC HS.out k q1
   have hxl:=HPL.out _ (List.getElem_mem q1)
   generalize a[k]=x at *
   have y0:=(hb.cell (World.block_lt_of_cell? _ _ hx)).trans hx
   have y1:=(hb.cell (World.block_lt_of_cell? _ _ hy)).trans hy
   have HC1:=Lib.hid (Kd.C_below hC1 hb)
   have HC2:=Lib.hid (Kd.C_below hC2 hb)
   have g1:(k:Int)<(a.length:Int):=by omega
   clear hx hy hC1 hC2 hb
   go_wp2_with fail
   refine start_ (n:=10) (S:=fun w'=>w'.cell? (ad.add k)=some (.slice A1 x.length c1)∧w'.cell? (bd.add k)=some (.slice B1 x.length d1)) (ds:=[]) (bmC 10 0) (by kernel_rfl) rfl rfl ⟨y0,y1⟩ (fun hHeld => ?_)
   refine pA 0 16 (bmC 10 1) ?_
   refine pA 1 17 (bmC 10 3) ?_
   refine pA 2 18 (bmC 10 7) ?_
   refine pA 4 20 (bmC 10 23) ?_
   refine pA 5 21 (bmC 10 55) ?_
   refine pA 6 22 (bmC 10 119) ?_
   refine tA 3 19 (bmC 10 127) hHeld ?_ (hy:=by
    rintro w' ⟨s0,s1⟩
    go_simp
    with_reducible rfl)
   refine tA 7 23 (bmC 10 255) hHeld ?_ (hy:=by
    rintro w' ⟨s0,s1⟩
    go_simp
    with_reducible rfl)
   refine eA 8 24 (bmC 10 511) (fun K hK => ?_)
   refine gA Tryz.func22 #[.slice A1 x.length c1,.slice B1 x.length d1] ?_
   refine (rpaths_calls A1 c1 x B1 d1 x _ (Kd.C_below HC1.out (bdrew (Below.refl wr.heap.size wr))) hc1 (Kd.C_below HC2.out (bdrew (Below.refl wr.heap.size wr))) hc2 hxl).mono ?_
   rintro e u8 ⟨rfl,nn,rfl⟩
   rw [decide_eq_true rfl]
   have hb8:=bdrewN (bdrew (Below.refl wr.heap.size wr)) nn
   refine ⟨_,rfl,?_⟩
   refine hK.out _ _ ⟨(hb8.cell (World.block_lt_of_cell? _ _ y0)).trans y0,(hb8.cell (World.block_lt_of_cell? _ _ y1)).trans y1⟩ (fun hHeld => ?_)
   refine nA 24 ?_
   refine pA 9 25 (bmC 10 1023) ?_
   refine done_ (by kernel_rfl) ?_
   go_wp2_with fail
   go_roundw
   case rel=>exact ⟨k+1,by omega,by go_num,bdrewN HB.out _⟩
   case measure=>simp [RowKit.intOf];omega
  ·obtain rfl:k=a.length:=by omega
   go_wp2_with fail
   go_ret
   exact ⟨rfl,HB.out⟩
def rchgR (a b:File):List (List ByteArray):=if (rightT a && rightT b)=true then rchgL a b else []
def restM (a b:File) (X Y:List (List ByteArray×(Int×Int))):List (List ByteArray):=(mrgP (X.map (·.1)) (Y.map (·.1))).filter fun p => !alikeB a b p
theorem mrg_nil (l:List (List ByteArray)):mrgP l []=l:=by cases l <;> rw [mrgP]
theorem rest_cons (a b:File) (p:List ByteArray) (l:List (List ByteArray)):(p :: l).filter (fun p => !alikeB a b p)=(if alikeB a b p=true then [] else [p])++l.filter fun p => !alikeB a b p:=by
 by_cases h:alikeB a b p=true
 ·rw [if_pos h,List.filter_cons_of_neg (by simpa using h)];rfl
 ·rw [if_neg h,List.filter_cons_of_pos (by simpa using h)];rfl
theorem rest_y (a b:File) (y:List ByteArray×(Int×Int)) (Y:List (List ByteArray×(Int×Int))):restM a b [] (y :: Y)=(if alikeB a b y.1=true then [] else [y.1])++restM a b [] Y:=by
 unfold restM
 rw [List.map_nil,List.map_cons,mrgP,rest_cons,mrgP]
theorem rest_x (a b:File) (x:List ByteArray×(Int×Int)) (X:List (List ByteArray×(Int×Int))):restM a b (x :: X) []=(if alikeB a b x.1=true then [] else [x.1])++restM a b X []:=by
 unfold restM
 rw [List.map_nil,List.map_cons,mrg_nil,rest_cons,mrg_nil]
theorem rest_yx (a b:File) (x y:List ByteArray×(Int×Int)) (X Y:List (List ByteArray×(Int×Int))) (h:cmpP y.1 x.1<0):restM a b (x :: X) (y :: Y)=(if alikeB a b y.1=true then [] else [y.1])++restM a b (x :: X) Y:=by
 unfold restM
 rw [List.map_cons,List.map_cons,mrgP,if_pos h,rest_cons]
theorem rest_xy (a b:File) (x y:List ByteArray×(Int×Int)) (X Y:List (List ByteArray×(Int×Int))) (h:¬ cmpP y.1 x.1<0):restM a b (x :: X) (y :: Y)=(if alikeB a b x.1=true then [] else [x.1])++restM a b X (if x.1=y.1 then Y else y :: Y):=by
 unfold restM
 rw [List.map_cons,List.map_cons,mrgP,if_neg h]
 split
 ·rw [rest_cons]
 ·rw [rest_cons,List.map_cons]
def ChR (W3:World) (a b:File) (L:List (List ByteArray)) (vx vy vo:Value) (wr:World):Prop :=
 ∃ (X Y:List (List ByteArray×(Int×Int))) (Ax Ay:Option Addr) (cx cy:Nat) (out:List (List ByteArray)),vx=.slice Ax X.length cx∧X.length≤cx∧vy=.slice Ay Y.length cy∧Y.length≤cy∧out.length+X.length+Y.length≤a.bulk+b.bulk∧KeptK.C W3 Ax X.length X∧KeptK.C W3 Ay Y.length Y∧(∀ z∈X,z.1.length≤a.bulk)∧(∀ z∈Y,z.1.length≤b.bulk)∧Kd.N PathK 37 wr W3.heap.size (fun _=>True) vo out∧out++restM a b X Y=L∧Below W3.heap.size W3 wr
def lenS (v:Value):Nat:=match v with | .slice _ n _=>n | _=>0
set_option maxHeartbeats 8000000 in
set_option maxRecDepth 100000 in
theorem rchanged_calls (a b:File) (A B:Option Addr) (c d:Nat) (w:World) (ha:FileK.C w A a.files.length a.files) (hca:a.files.length≤c) (hb:FileK.C w B b.files.length b.files) (hcb:b.files.length≤d) (hba:a.bulk≤100000000) (hbb:b.bulk≤100000000) :
  Calls Tryz.prog 34 #[fileV a A c,fileV b B d] w fun e w'=>∃ A9 c9,e=.returned (.tuple #[.slice A9 (rchgR a b).length c9,.int .i64 (if (rightT a && rightT b)=true then 0 else 30)])∧(rchgR a b).length≤c9∧Kd.C PathK w' A9 (rchgR a b).length (rchgR a b)∧Below w.heap.size w w':=by
 have h2:=two_boxes w (fc a A c) (fc b B d) 25 25
 have hb0:=((Below.refl w.heap.size w).alloc (Nat.le_refl _) (.cells (fc a A c) 25)).alloc (by simp) (.cells (fc b B d) 25)
 have I:=Lib.hid (Hd.base hb0 (by first | exact Nat.le_refl _ | exact Below.size hb0))
 replace I:=Lib.hid (Hd.and I.out (Hd.box (h2.1)))
 replace I:=Lib.hid (Hd.and I.out (Hd.box (h2.2)))
 replace I:=Lib.hid (Hd.and I.out (Hd.reads (Kd.C_below ha hb0)))
 replace I:=Lib.hid (Hd.and I.out (Hd.reads (Kd.C_below hb hb0)))
 obtain ⟨L,hL⟩:∃ L,rchgR a b=L:=⟨_,rfl⟩
 obtain ⟨kk,hkk⟩:∃ k:Int,(if (rightT a && rightT b)=true then (0:Int) else 30)=k:=⟨_,rfl⟩
 rw [hL,hkk]
 unfold rchgR at hL
 have HL:=Lib.hid hL
 have HKK:=Lib.hid hkk
 clear h2 ha hb hL hkk
 go_enter Tryz.func34,Tryz.ntmps34
 unfold fileV
 obtain ⟨la0,la1,la2,la3⟩:=c4A I.out.now.2.2.2.1
 go_wp2_with fail
 clear la0 la1 la2 la3
 generalize ((w.alloc (.cells (fc a A c) 25)).alloc (.cells (fc b B d) 25))=W0 at *
 refine ((show Calls Tryz.prog 44 #[.agg (fc a A c)] _ _ from rright_calls a A c _ (by omega) I.out.now.2.1 hca)).mono ?_
 rintro e w1 ⟨rfl,hq1⟩
 replace I:=Lib.hid (Hd.mv I.out hq1)
 cases hra:rightT a
 ·have HE:Hid (L=[]∧kk=30):=Lib.hid (by
   have h1:=HL.out
   have h2:=HKK.out
   rw [hra,Bool.false_and] at h1 h2
   exact ⟨h1.symm.trans (if_neg (by decide)),h2.symm.trans (if_neg (by decide))⟩)
  have HB9:=I.out.now.2.2.2.2
  go_wp2_with fail
  refine bodyPost_ret (results_tmp2 rfl _ _ _) rfl ?_
  exact ⟨none,0,by rw [HE.out.1,HE.out.2];rfl,by rw [HE.out.1];exact Nat.le_refl _,by rw [HE.out.1];exact Kd.C_nil _ _,HB9⟩
 have HRA:=Lib.hid hra
 clear hra
 obtain ⟨lb0,lb1,lb2,lb3⟩:=c4A I.out.now.2.2.1
 go_wp2_with fail
 clear lb0 lb1 lb2 lb3
 refine ((show Calls Tryz.prog 44 #[.agg (fc b B d)] _ _ from rright_calls b B d _ (by omega) I.out.now.1 hcb)).mono ?_
 rintro e w2 ⟨rfl,hq2⟩
 replace I:=Lib.hid (Hd.mv I.out hq2)
 cases hrb:rightT b
 ·have HE:Hid (L=[]∧kk=30):=Lib.hid (by
   have h1:=HL.out
   have h2:=HKK.out
   rw [hrb,Bool.and_false] at h1 h2
   exact ⟨h1.symm.trans (if_neg (by decide)),h2.symm.trans (if_neg (by decide))⟩)
  have HB9:=I.out.now.2.2.2.2
  go_wp2_with fail
  refine bodyPost_ret (results_tmp2 rfl _ _ _) rfl ?_
  exact ⟨none,0,by rw [HE.out.1,HE.out.2];rfl,by rw [HE.out.1];exact Nat.le_refl _,by rw [HE.out.1];exact Kd.C_nil _ _,HB9⟩
 have HRB:=Lib.hid hrb
 have HLL:Hid (rchgL a b=L∧kk=0):=Lib.hid (by
  have h1:=HL.out
  have h2:=HKK.out
  rw [HRA.out,hrb] at h1 h2
  exact ⟨(if_pos rfl).symm.trans h1,h2.symm.trans (if_pos rfl)⟩)
 clear hrb HL HKK
 obtain ⟨xs,hxs⟩:∃ l,keptL [] a=l:=⟨_,rfl⟩
 obtain ⟨ys,hys⟩:∃ l,keptL [] b=l:=⟨_,rfl⟩
 have HXS:=Lib.hid hxs
 have HYS:=Lib.hid hys
 clear hxs hys
 go_wp2_with fail
 have HXA:=Lib.hid I.out.now.2.2.2.1
 have HXB:=Lib.hid I.out.now.2.2.1
 have HCA:=Lib.hid I.out.now.2.1
 have HCB:=Lib.hid I.out.now.1
 have HB5:=Lib.hid I.out.now.2.2.2.2
 refine start_ (n:=6) (S:=fun w'=>w'.heap[w.heap.size]? = some (.cells (fc a A c) 25 (0,0))∧w'.heap[w.heap.size+1]? = some (.cells (fc b B d) 25 (0,0))) (ds:=[]) (bmC 6 0) (by kernel_rfl) rfl rfl ⟨HXA.out,HXB.out⟩ (fun hHeld => ?_)
 refine tA 0 18 (bmC 6 1) hHeld ?_ (hy:=by
  rintro w' ⟨s0,s1⟩
  have q0:=cell_of (j:=0) s0 rfl
  have q1:=cell_of (j:=1) s0 rfl
  have q2:=cell_of (j:=2) s0 rfl
  have q3:=cell_of (j:=3) s0 rfl
  go_simp
  with_reducible rfl)
 refine tA 2 20 (bmC 6 5) hHeld ?_ (hy:=by
  rintro w' ⟨s0,s1⟩
  have q0:=cell_of (j:=0) s1 rfl
  have q1:=cell_of (j:=1) s1 rfl
  have q2:=cell_of (j:=2) s1 rfl
  have q3:=cell_of (j:=3) s1 rfl
  go_simp
  with_reducible rfl)
 refine eA 1 19 (bmC 6 7) (fun K hK => ?_)
 refine gA Tryz.func67 #[.agg (fc a A c),.slice none 0 0] ?_
 refine (show Calls Tryz.prog 67 #[.agg (fc a A c),.slice none 0 0] _ _ from listed_calls a.bulk a A c none 0 [] _ (Nat.le_refl _) (by simp only [List.length_nil];omega) (Kd.C_below HCA.out (bdrew (Below.refl w2.heap.size w2))) hca (Kd.C_nil _ _) (Nat.le_refl _)).mono ?_
 rintro e U7 ⟨v7,rfl,hR7,hq7⟩
 rw [HXS.out] at hR7
 obtain ⟨A7,c7,rfl,hc7,hC7⟩:=Kd.R_reads hR7
 have hb7:=(bdrew (Below.refl w2.heap.size w2)).trans (hq7.mono (Below.size (bdrew (Below.refl w2.heap.size w2))))
 refine ⟨_,rfl,?_⟩
 refine hK.out _ _ ⟨(hb7.block _ (blk_lt HXA.out)).trans HXA.out,(hb7.block _ (blk_lt HXB.out)).trans HXB.out⟩ (fun hHeld => ?_)
 refine nA 19 ?_
 refine eA 3 21 (bmC 6 15) (fun K hK => ?_)
 refine gA Tryz.func67 #[.agg (fc b B d),.slice none 0 0] ?_
 refine (show Calls Tryz.prog 67 #[.agg (fc b B d),.slice none 0 0] _ _ from listed_calls b.bulk b B d none 0 [] _ (Nat.le_refl _) (by simp only [List.length_nil];omega) (Kd.C_below HCB.out hb7) hcb (Kd.C_nil _ _) (Nat.le_refl _)).mono ?_
 rintro e U8 ⟨v8,rfl,hR8,hq8⟩
 rw [HYS.out] at hR8
 obtain ⟨A8,c8,rfl,hc8,hC8⟩:=Kd.R_reads hR8
 have hb8:=hb7.trans (hq8.mono (Below.size hb7))
 refine ⟨_,rfl,?_⟩
 refine hK.out _ _ ⟨(hb8.block _ (blk_lt HXA.out)).trans HXA.out,(hb8.block _ (blk_lt HXB.out)).trans HXB.out⟩ (fun hHeld => ?_)
 refine nA 21 ?_
 refine pA 4 6 (bmC 6 31) ?_
 refine pA 5 7 (bmC 6 63) ?_
 refine done_ (by kernel_rfl) ?_
 have HC7:=Lib.hid (Kd.C_below hC7 hq8)
 have HC8:=Lib.hid hC8
 have HB8:=Lib.hid (HB5.out.trans (hb8.mono HB5.out.size))
 have HX8:=Lib.hid ((hb8.block _ (blk_lt HXA.out)).trans HXA.out)
 have HY8:=Lib.hid ((hb8.block _ (blk_lt HXB.out)).trans HXB.out)
 have HA8:=Lib.hid (Kd.C_below HCA.out hb8)
 have HD8:=Lib.hid (Kd.C_below HCB.out hb8)
 have hxl:=kept_countC a
 have hyl:=kept_countC b
 rw [HXS.out] at hxl
 rw [HYS.out] at hyl
 have HI0:Hid (ChR U8 a b L (.slice A7 xs.length c7) (.slice A8 ys.length c8) (.slice none 0 0) U8):=Lib.hid (by
  refine ⟨xs,ys,A7,A8,c7,c8,[],rfl,hc7,rfl,hc8,by simp only [List.length_nil];omega,HC7.out,HC8.out,by rw [← HXS.out];exact kept_boundC a,by rw [← HYS.out];exact kept_boundC b,Kd.N_nil _ _ _ _ _,?_,Below.refl _ _⟩
  rw [List.nil_append,← HLL.out.1,← HXS.out,← HYS.out]
  unfold restM rchgL
  rw [kept_pathsC,kept_pathsC])
 clear hC7 hC8 hq7 hq8 hb7 hb8 hR7 hR8 HXA HXB HCA HCB HC7 HC8 HXS HYS hxl hyl
 go_wp2_with fail
 go_loopw [6,7,8] (fun vx vy vo wr=>Hid (ChR U8 a b L vx vy vo wr)) (fun vx vy _ _=>lenS vx+lenS vy)
 case atStart=>exact HI0
 case round =>
  clear HI0
  obtain ⟨X,Y,Ax,Ay,cx,cy,o,rfl,hcx,rfl,hcy,hlen,hX,hY,hXl,hYl,hN,hE,hbw⟩:=hrel.out
  have HX:=Lib.hid hX
  have HY:=Lib.hid hY
  have HXL:=Lib.hid hXl
  have HYL:=Lib.hid hYl
  have HE:=Lib.hid hE
  have hax:=below_alloc (Below.refl wr.heap.size wr) (.cells #[] 9)
  have HN:=Lib.hid hN
  have HN1:=Lib.hid (Kd.N_below hN hax)
  have HBW:=Lib.hid hbw
  have HB1:=Lib.hid (hbw.trans (hax.mono hbw.size))
  clear hrel hX hY hXl hYl hN hE hbw hax
  generalize u8=vo at *
  rcases X with _ | ⟨x,X⟩
  ·rcases Y with _ | ⟨y,Y⟩
   ·obtain ⟨A9,c9,he9,hc9,hC9⟩:=Kd.N_reads HN.out
    subst he9
    have HC9:=Lib.hid hC9
    clear hC9
    go_wp2_with fail
    refine bodyPost_ret (results_tmp2 rfl _ _ _) rfl ?_
    have hoL:o=L:=by rw [← HE.out];simp [restM,mrgP]
    exact ⟨A9,c9,by rw [HLL.out.2,← hoL];rfl,by rw [← hoL];exact hc9,by rw [← hoL];exact HC9.out,HB8.out.trans (HBW.out.mono HB8.out.size)⟩
   ·simp only [List.length_cons,List.length_nil] at *
    obtain ⟨yd,By,dy,hAy,hpy,_,_,hdy,hCy⟩:=kept_atC HY.out
    subst hAy
    have HPy:=Lib.hid hpy
    have HCy:=Lib.hid hCy
    have hby:=HYL.out y List.mem_cons_self
    clear hpy hCy
    have HQy:=Lib.hid (kept_pop HY.out (by simp only [List.length_cons];omega))
    have HB_V:=HB1
    have HN_V:=HN1
    clear HB1 HN1 HN HBW
    have y0:=(HB_V.out.cell (World.block_lt_of_cell? _ _ HPy.out)).trans HPy.out
    go_wp2_with fail
    clear y0
    generalize (wr.alloc (.cells #[] 9))=V at *
    refine (rpaths_calls By dy y.1 By dy y.1 V (Kd.C_below HCy.out HB_V.out) hdy (Kd.C_below HCy.out HB_V.out) hdy (by omega)).mono ?_
    rintro e V2 ⟨rfl,nq,hv⟩
    rw [decide_eq_true rfl]
    have hq:Below V.heap.size V V2:=by rw [hv];exact bdrewN (Below.refl _ _) nq
    have HB_V2:=Lib.hid (HB_V.out.trans (hq.mono HB_V.out.size))
    have HN_V2:=Lib.hid (Kd.N_below HN_V.out hq)
    clear hv hq
    obtain ⟨la0,la1,la2,la3⟩:=c4A ((HB_V2.out.block _ (blk_lt HX8.out)).trans HX8.out)
    obtain ⟨lb0,lb1,lb2,lb3⟩:=c4A ((HB_V2.out.block _ (blk_lt HY8.out)).trans HY8.out)
    go_wp2_with fail
    all_goals
     clear la0 la1 la2 la3 lb0 lb1 lb2 lb3
     refine (show Calls Tryz.prog 76 #[.agg (fc a A c),.agg (fc b B d),.slice By y.1.length dy] _ _ from ralike_calls a b A B c d By dy y.1 _ (Kd.C_below HA8.out HB_V2.out) hca (Kd.C_below HD8.out HB_V2.out) hcb (by omega) (by omega) (Kd.C_below HCy.out HB_V2.out) hdy (by omega)).mono ?_
     rintro e V5 ⟨rfl,hq⟩
     have HB_V5:=Lib.hid (HB_V2.out.trans (hq.mono HB_V2.out.size))
     have HN_V5:=Lib.hid (Kd.N_below HN_V2.out hq)
     have hbv:=HB_V5.out
     have hbz:=hbv.size
     have HFP:=Lib.hid (path_FKC (Kd.F_step (Kd.C_F Kd.heap_string HCy.out) (W1:=V5) fun j hj _=>HB_V5.out.block j hj) hdy)
     obtain ⟨t,ht⟩:∃ t,alikeB a b y.1=t:=⟨_,rfl⟩
     have he:=HE.out
     rw [rest_y,ht] at he
     rw [ht]
     have HE2:=Lib.hid he
     clear he ht hq
     cases t
     ·go_wp2_with (at_builtin;refine Kd.N_append PathK (w0:=U8) U8.heap.size rfl (.tmp 94) (.tmp 96) 40 37 (.slice none 0 0) 24 rfl Tryz.underlying40 info_path rfl (by decide) (by decide) vo o y.1 [.slice By y.1.length dy] (fun _=>True) (fun k=>k<U8.heap.size) rfl rfl ?aP ?aK ?aF ?aO ?aB ?aS ?aL ?_;(case aP=>exact HFP.out);(case aK=>exact fun j hj=>⟨trivial,fun e=>by have:=Kd.N_base HN_V5.out j e.symm;omega⟩);(case aF=>exact fun _ _=>trivial);(case aO=>exact HN_V5.out);(case aB=>exact HB_V5.out);(case aS=>exact HB_V5.out.size);(case aL=>omega);intro v1 w11 hn1 hb11 hg11 hat11;have HN11:=Lib.hid hn1;have HB11:=Lib.hid hb11)
      clear hn1 hb11 hg11 hat11
      go_wp2_with fail
      go_roundw
      case rel=>exact Lib.hid ⟨[],Y,_,_,_,_,o++[y.1],rfl,by (try simp only [List.length_cons,List.length_nil]);omega,rfl,by (try simp only [List.length_cons,List.length_nil]);omega,by (try simp only [List.length_cons,List.length_nil,List.length_append]);omega,HX.out,(by first | exact HQy.out.1 (by assumption) | exact HQy.out.2 (by assumption)),HXL.out,fun z hz=>HYL.out z (List.mem_cons_of_mem _ hz),HN11.out,by rw [List.append_assoc];exact HE2.out,HB11.out⟩
      case measure=>simp only [lenS];omega
     ·skip
      go_wp2_with fail
      go_roundw
      case rel=>exact Lib.hid ⟨[],Y,_,_,_,_,o,rfl,by (try simp only [List.length_cons,List.length_nil]);omega,rfl,by (try simp only [List.length_cons,List.length_nil]);omega,by (try simp only [List.length_cons,List.length_nil,List.length_append]);omega,HX.out,(by first | exact HQy.out.1 (by assumption) | exact HQy.out.2 (by assumption)),HXL.out,fun z hz=>HYL.out z (List.mem_cons_of_mem _ hz),HN_V5.out,HE2.out,HB_V5.out⟩
      case measure=>simp only [lenS];omega
  ·rcases Y with _ | ⟨y,Y⟩
   ·simp only [List.length_cons,List.length_nil] at *
    obtain ⟨xd,Bx,dx,hAx,hpx,_,_,hdx,hCx⟩:=kept_atC HX.out
    subst hAx
    have HPx:=Lib.hid hpx
    have HCx:=Lib.hid hCx
    have hbx:=HXL.out x List.mem_cons_self
    clear hpx hCx
    have HQx:=Lib.hid (kept_pop HX.out (by simp only [List.length_cons];omega))
    have HB_V:=HB1
    have HN_V:=HN1
    clear HB1 HN1 HN HBW
    go_wp2_with fail
    generalize (wr.alloc (.cells #[] 9))=V at *
    refine start_ (n:=16) (S:=fun _=>True) (ds:=[]) (bmC 16 0) (by kernel_rfl) rfl rfl trivial (fun hHeld => ?_)
    refine pA 0 44 (bmC 16 1) ?_
    refine pA 1 45 (bmC 16 3) ?_
    refine pA 2 46 (bmC 16 7) ?_
    refine pA 3 47 (bmC 16 15) ?_
    refine oA 4 48 (bmC 16 31) ?_
    refine oA 5 49 (bmC 16 63) ?_
    refine oA 6 50 (bmC 16 127) ?_
    refine oA 7 51 (bmC 16 255) ?_
    refine oA 8 52 (bmC 16 511) ?_
    refine oA 9 53 (bmC 16 1023) ?_
    refine oA 10 54 (bmC 16 2047) ?_
    refine oA 11 55 (bmC 16 4095) ?_
    refine oA 12 56 (bmC 16 8191) ?_
    refine oA 13 57 (bmC 16 16383) ?_
    refine pA 14 58 (bmC 16 32767) ?_
    refine pA 15 43 (bmC 16 65535) ?_
    refine done_ (by kernel_rfl) ?_
    have hbd:=bdrew (Below.refl V.heap.size V)
    have HB_V1:=Lib.hid (HB_V.out.trans (hbd.mono HB_V.out.size))
    have HN_V1:=Lib.hid (Kd.N_below HN_V.out hbd)
    clear hbd
    generalize V.drew=V1 at *
    have x0:=(HB_V1.out.cell (World.block_lt_of_cell? _ _ HPx.out)).trans HPx.out
    go_wp2_with fail
    clear x0
    refine (rpaths_calls Bx dx x.1 Bx dx x.1 V1 (Kd.C_below HCx.out HB_V1.out) hdx (Kd.C_below HCx.out HB_V1.out) hdx (by omega)).mono ?_
    rintro e V2 ⟨rfl,nq,hv⟩
    rw [decide_eq_true rfl]
    have hq:Below V1.heap.size V1 V2:=by rw [hv];exact bdrewN (Below.refl _ _) nq
    have HB_V2:=Lib.hid (HB_V1.out.trans (hq.mono HB_V1.out.size))
    have HN_V2:=Lib.hid (Kd.N_below HN_V1.out hq)
    clear hv hq
    obtain ⟨la0,la1,la2,la3⟩:=c4A ((HB_V2.out.block _ (blk_lt HX8.out)).trans HX8.out)
    obtain ⟨lb0,lb1,lb2,lb3⟩:=c4A ((HB_V2.out.block _ (blk_lt HY8.out)).trans HY8.out)
    go_wp2_with fail
    all_goals
     clear la0 la1 la2 la3 lb0 lb1 lb2 lb3
     refine (show Calls Tryz.prog 76 #[.agg (fc a A c),.agg (fc b B d),.slice Bx x.1.length dx] _ _ from ralike_calls a b A B c d Bx dx x.1 _ (Kd.C_below HA8.out HB_V2.out) hca (Kd.C_below HD8.out HB_V2.out) hcb (by omega) (by omega) (Kd.C_below HCx.out HB_V2.out) hdx (by omega)).mono ?_
     rintro e V5 ⟨rfl,hq⟩
     have HB_V5:=Lib.hid (HB_V2.out.trans (hq.mono HB_V2.out.size))
     have HN_V5:=Lib.hid (Kd.N_below HN_V2.out hq)
     have hbv:=HB_V5.out
     have hbz:=hbv.size
     have HFP:=Lib.hid (path_FKC (Kd.F_step (Kd.C_F Kd.heap_string HCx.out) (W1:=V5) fun j hj _=>HB_V5.out.block j hj) hdx)
     obtain ⟨t,ht⟩:∃ t,alikeB a b x.1=t:=⟨_,rfl⟩
     have he:=HE.out
     rw [rest_x,ht] at he
     rw [ht]
     have HE2:=Lib.hid he
     clear he ht hq
     cases t
     ·go_wp2_with (at_builtin;refine Kd.N_append PathK (w0:=U8) U8.heap.size rfl (.tmp 94) (.tmp 96) 40 37 (.slice none 0 0) 24 rfl Tryz.underlying40 info_path rfl (by decide) (by decide) vo o x.1 [.slice Bx x.1.length dx] (fun _=>True) (fun k=>k<U8.heap.size) rfl rfl ?aP ?aK ?aF ?aO ?aB ?aS ?aL ?_;(case aP=>exact HFP.out);(case aK=>exact fun j hj=>⟨trivial,fun e=>by have:=Kd.N_base HN_V5.out j e.symm;omega⟩);(case aF=>exact fun _ _=>trivial);(case aO=>exact HN_V5.out);(case aB=>exact HB_V5.out);(case aS=>exact HB_V5.out.size);(case aL=>omega);intro v1 w11 hn1 hb11 hg11 hat11;have HN11:=Lib.hid hn1;have HB11:=Lib.hid hb11)
      clear hn1 hb11 hg11 hat11
      go_wp2_with fail
      go_roundw
      case rel=>exact Lib.hid ⟨X,[],_,_,_,_,o++[x.1],rfl,by (try simp only [List.length_cons,List.length_nil]);omega,rfl,by (try simp only [List.length_cons,List.length_nil]);omega,by (try simp only [List.length_cons,List.length_nil,List.length_append]);omega,(by first | exact HQx.out.1 (by assumption) | exact HQx.out.2 (by assumption)),HY.out,fun z hz=>HXL.out z (List.mem_cons_of_mem _ hz),HYL.out,HN11.out,by rw [List.append_assoc];exact HE2.out,HB11.out⟩
      case measure=>simp only [lenS];omega
     ·skip
      go_wp2_with fail
      go_roundw
      case rel=>exact Lib.hid ⟨X,[],_,_,_,_,o,rfl,by (try simp only [List.length_cons,List.length_nil]);omega,rfl,by (try simp only [List.length_cons,List.length_nil]);omega,by (try simp only [List.length_cons,List.length_nil,List.length_append]);omega,(by first | exact HQx.out.1 (by assumption) | exact HQx.out.2 (by assumption)),HY.out,fun z hz=>HXL.out z (List.mem_cons_of_mem _ hz),HYL.out,HN_V5.out,HE2.out,HB_V5.out⟩
      case measure=>simp only [lenS];omega
   ·simp only [List.length_cons] at *
    obtain ⟨xd,Bx,dx,hAx,hpx,_,_,hdx,hCx⟩:=kept_atC HX.out
    subst hAx
    have HPx:=Lib.hid hpx
    have HCx:=Lib.hid hCx
    have hbx:=HXL.out x List.mem_cons_self
    clear hpx hCx
    obtain ⟨yd,By,dy,hAy,hpy,_,_,hdy,hCy⟩:=kept_atC HY.out
    subst hAy
    have HPy:=Lib.hid hpy
    have HCy:=Lib.hid hCy
    have hby:=HYL.out y List.mem_cons_self
    clear hpy hCy
    by_cases hlt:cmpP y.1 x.1<0
    ·have HLT:=Lib.hid hlt
     have HXY:Hid (x.1≠y.1):=Lib.hid (fun e=>by rw [e,cmp_self] at hlt;omega)
     clear hlt
     have HQy:=Lib.hid (kept_pop HY.out (by simp only [List.length_cons];omega))
     have HB_V:=HB1
     have HN_V:=HN1
     clear HB1 HN1 HN HBW
     go_wp2_with fail
     generalize (wr.alloc (.cells #[] 9))=V at *
     have x0:=(HB_V.out.cell (World.block_lt_of_cell? _ _ HPx.out)).trans HPx.out
     have y0:=(HB_V.out.cell (World.block_lt_of_cell? _ _ HPy.out)).trans HPy.out
     refine start_ (n:=16) (S:=fun w'=>w'.cell? yd=some (.slice By y.1.length dy)∧w'.cell? xd=some (.slice Bx x.1.length dx)) (ds:=[]) (bmC 16 0) (by kernel_rfl) rfl rfl ⟨y0,x0⟩ (fun hHeld => ?_)
     refine pA 0 44 (bmC 16 1) ?_
     refine pA 1 45 (bmC 16 3) ?_
     refine pA 2 46 (bmC 16 7) ?_
     refine pA 3 47 (bmC 16 15) ?_
     refine pA 4 48 (bmC 16 31) ?_
     refine pA 5 49 (bmC 16 63) ?_
     refine pA 6 50 (bmC 16 127) ?_
     refine pA 8 52 (bmC 16 383) ?_
     refine pA 9 53 (bmC 16 895) ?_
     refine pA 10 54 (bmC 16 1919) ?_
     refine tA 7 51 (bmC 16 2047) hHeld ?_ (hy:=by
      rintro w' ⟨s0,s1⟩
      go_simp
      with_reducible rfl)
     refine tA 11 55 (bmC 16 4095) hHeld ?_ (hy:=by
      rintro w' ⟨s0,s1⟩
      go_simp
      with_reducible rfl)
     refine eA 12 56 (bmC 16 8191) (fun K hK => ?_)
     refine gA Tryz.func35 #[.slice By y.1.length dy,.slice Bx x.1.length dx] ?_
     refine (ahead_calls By dy y.1 Bx dx x.1 _ (Kd.C_below (Kd.C_below HCy.out HB_V.out) (bdrew (Below.refl V.heap.size V))) hdy (Kd.C_below (Kd.C_below HCx.out HB_V.out) (bdrew (Below.refl V.heap.size V))) hdx (by omega)).mono ?_
     rintro e V1 ⟨rfl,nn,hv⟩
     rw [decide_eq_true HLT.out]
     have hb9:Below V.heap.size V V1:=by rw [hv];exact bdrewN (bdrew (Below.refl V.heap.size V)) nn
     refine ⟨_,rfl,?_⟩
     refine hK.out _ _ ⟨(hb9.cell (World.block_lt_of_cell? _ _ y0)).trans y0,(hb9.cell (World.block_lt_of_cell? _ _ x0)).trans x0⟩ (fun hHeld => ?_)
     refine nA 56 ?_
     refine pA 13 57 (bmC 16 16383) ?_
     refine pA 14 58 (bmC 16 32767) ?_
     refine pA 15 43 (bmC 16 65535) ?_
     refine done_ (by kernel_rfl) ?_
     have HB_V1:=Lib.hid (HB_V.out.trans (hb9.mono HB_V.out.size))
     have HN_V1:=Lib.hid (Kd.N_below HN_V.out hb9)
     clear hb9 hv x0 y0
     have x0:=(HB_V1.out.cell (World.block_lt_of_cell? _ _ HPx.out)).trans HPx.out
     have y0:=(HB_V1.out.cell (World.block_lt_of_cell? _ _ HPy.out)).trans HPy.out
     go_wp2_with fail
     clear x0 y0
     refine (rpaths_calls Bx dx x.1 By dy y.1 V1 (Kd.C_below HCx.out HB_V1.out) hdx (Kd.C_below HCy.out HB_V1.out) hdy (by omega)).mono ?_
     rintro e V2 ⟨rfl,nq,hv⟩
     rw [decide_eq_false HXY.out]
     have hq:Below V1.heap.size V1 V2:=by rw [hv];exact bdrewN (Below.refl _ _) nq
     have HB_V2:=Lib.hid (HB_V1.out.trans (hq.mono HB_V1.out.size))
     have HN_V2:=Lib.hid (Kd.N_below HN_V1.out hq)
     clear hv hq
     have y0:=(HB_V2.out.cell (World.block_lt_of_cell? _ _ HPy.out)).trans HPy.out
     go_wp2_with fail
     clear y0
     refine (rpaths_calls By dy y.1 By dy y.1 V2 (Kd.C_below HCy.out HB_V2.out) hdy (Kd.C_below HCy.out HB_V2.out) hdy (by omega)).mono ?_
     rintro e V3 ⟨rfl,nq,hv⟩
     rw [decide_eq_true rfl]
     have hq:Below V2.heap.size V2 V3:=by rw [hv];exact bdrewN (Below.refl _ _) nq
     have HB_V3:=Lib.hid (HB_V2.out.trans (hq.mono HB_V2.out.size))
     have HN_V3:=Lib.hid (Kd.N_below HN_V2.out hq)
     clear hv hq
     obtain ⟨la0,la1,la2,la3⟩:=c4A ((HB_V3.out.block _ (blk_lt HX8.out)).trans HX8.out)
     obtain ⟨lb0,lb1,lb2,lb3⟩:=c4A ((HB_V3.out.block _ (blk_lt HY8.out)).trans HY8.out)
     go_wp2_with fail
     all_goals
      clear la0 la1 la2 la3 lb0 lb1 lb2 lb3
      refine (show Calls Tryz.prog 76 #[.agg (fc a A c),.agg (fc b B d),.slice By y.1.length dy] _ _ from ralike_calls a b A B c d By dy y.1 _ (Kd.C_below HA8.out HB_V3.out) hca (Kd.C_below HD8.out HB_V3.out) hcb (by omega) (by omega) (Kd.C_below HCy.out HB_V3.out) hdy (by omega)).mono ?_
      rintro e V5 ⟨rfl,hq⟩
      have HB_V5:=Lib.hid (HB_V3.out.trans (hq.mono HB_V3.out.size))
      have HN_V5:=Lib.hid (Kd.N_below HN_V3.out hq)
      have hbv:=HB_V5.out
      have hbz:=hbv.size
      have HFP:=Lib.hid (path_FKC (Kd.F_step (Kd.C_F Kd.heap_string HCy.out) (W1:=V5) fun j hj _=>HB_V5.out.block j hj) hdy)
      obtain ⟨t,ht⟩:∃ t,alikeB a b y.1=t:=⟨_,rfl⟩
      have he:=HE.out
      rw [rest_yx _ _ _ _ _ _ HLT.out,ht] at he
      rw [ht]
      have HE2:=Lib.hid he
      clear he ht hq
      cases t
      ·go_wp2_with (at_builtin;refine Kd.N_append PathK (w0:=U8) U8.heap.size rfl (.tmp 94) (.tmp 96) 40 37 (.slice none 0 0) 24 rfl Tryz.underlying40 info_path rfl (by decide) (by decide) vo o y.1 [.slice By y.1.length dy] (fun _=>True) (fun k=>k<U8.heap.size) rfl rfl ?aP ?aK ?aF ?aO ?aB ?aS ?aL ?_;(case aP=>exact HFP.out);(case aK=>exact fun j hj=>⟨trivial,fun e=>by have:=Kd.N_base HN_V5.out j e.symm;omega⟩);(case aF=>exact fun _ _=>trivial);(case aO=>exact HN_V5.out);(case aB=>exact HB_V5.out);(case aS=>exact HB_V5.out.size);(case aL=>omega);intro v1 w11 hn1 hb11 hg11 hat11;have HN11:=Lib.hid hn1;have HB11:=Lib.hid hb11)
       clear hn1 hb11 hg11 hat11
       go_wp2_with fail
       go_roundw
       case rel=>exact Lib.hid ⟨x :: X,Y,_,_,_,_,o++[y.1],rfl,by (try simp only [List.length_cons,List.length_nil]);omega,rfl,by (try simp only [List.length_cons,List.length_nil]);omega,by (try simp only [List.length_cons,List.length_nil,List.length_append]);omega,HX.out,(by first | exact HQy.out.1 (by assumption) | exact HQy.out.2 (by assumption)),HXL.out,fun z hz=>HYL.out z (List.mem_cons_of_mem _ hz),HN11.out,by rw [List.append_assoc];exact HE2.out,HB11.out⟩
       case measure=>simp only [lenS];omega
      ·skip
       go_wp2_with fail
       go_roundw
       case rel=>exact Lib.hid ⟨x :: X,Y,_,_,_,_,o,rfl,by (try simp only [List.length_cons,List.length_nil]);omega,rfl,by (try simp only [List.length_cons,List.length_nil]);omega,by (try simp only [List.length_cons,List.length_nil,List.length_append]);omega,HX.out,(by first | exact HQy.out.1 (by assumption) | exact HQy.out.2 (by assumption)),HXL.out,fun z hz=>HYL.out z (List.mem_cons_of_mem _ hz),HN_V5.out,HE2.out,HB_V5.out⟩
       case measure=>simp only [lenS];omega
    have HLT:=Lib.hid (Int.not_lt.1 hlt)
    clear hlt
    by_cases hxy:y.1=x.1
    ·have HXY:=Lib.hid hxy
     clear hxy
     have HQx:=Lib.hid (kept_pop HX.out (by simp only [List.length_cons];omega))
     have HQy:=Lib.hid (kept_pop HY.out (by simp only [List.length_cons];omega))
     have HB_V:=HB1
     have HN_V:=HN1
     clear HB1 HN1 HN HBW
     go_wp2_with fail
     generalize (wr.alloc (.cells #[] 9))=V at *
     have x0:=(HB_V.out.cell (World.block_lt_of_cell? _ _ HPx.out)).trans HPx.out
     have y0:=(HB_V.out.cell (World.block_lt_of_cell? _ _ HPy.out)).trans HPy.out
     refine start_ (n:=16) (S:=fun w'=>w'.cell? yd=some (.slice By y.1.length dy)∧w'.cell? xd=some (.slice Bx x.1.length dx)) (ds:=[]) (bmC 16 0) (by kernel_rfl) rfl rfl ⟨y0,x0⟩ (fun hHeld => ?_)
     refine pA 0 44 (bmC 16 1) ?_
     refine pA 1 45 (bmC 16 3) ?_
     refine pA 2 46 (bmC 16 7) ?_
     refine pA 3 47 (bmC 16 15) ?_
     refine pA 4 48 (bmC 16 31) ?_
     refine pA 5 49 (bmC 16 63) ?_
     refine pA 6 50 (bmC 16 127) ?_
     refine pA 8 52 (bmC 16 383) ?_
     refine pA 9 53 (bmC 16 895) ?_
     refine pA 10 54 (bmC 16 1919) ?_
     refine tA 7 51 (bmC 16 2047) hHeld ?_ (hy:=by
      rintro w' ⟨s0,s1⟩
      go_simp
      with_reducible rfl)
     refine tA 11 55 (bmC 16 4095) hHeld ?_ (hy:=by
      rintro w' ⟨s0,s1⟩
      go_simp
      with_reducible rfl)
     refine eA 12 56 (bmC 16 8191) (fun K hK => ?_)
     refine gA Tryz.func35 #[.slice By y.1.length dy,.slice Bx x.1.length dx] ?_
     refine (ahead_calls By dy y.1 Bx dx x.1 _ (Kd.C_below (Kd.C_below HCy.out HB_V.out) (bdrew (Below.refl V.heap.size V))) hdy (Kd.C_below (Kd.C_below HCx.out HB_V.out) (bdrew (Below.refl V.heap.size V))) hdx (by omega)).mono ?_
     rintro e V1 ⟨rfl,nn,hv⟩
     rw [decide_eq_false (Int.not_lt.2 HLT.out)]
     have hb9:Below V.heap.size V V1:=by rw [hv];exact bdrewN (bdrew (Below.refl V.heap.size V)) nn
     refine ⟨_,rfl,?_⟩
     refine hK.out _ _ ⟨(hb9.cell (World.block_lt_of_cell? _ _ y0)).trans y0,(hb9.cell (World.block_lt_of_cell? _ _ x0)).trans x0⟩ (fun hHeld => ?_)
     refine nA 56 ?_
     refine pA 13 57 (bmC 16 16383) ?_
     refine pA 14 58 (bmC 16 32767) ?_
     refine pA 15 43 (bmC 16 65535) ?_
     refine done_ (by kernel_rfl) ?_
     have HB_V1:=Lib.hid (HB_V.out.trans (hb9.mono HB_V.out.size))
     have HN_V1:=Lib.hid (Kd.N_below HN_V.out hb9)
     clear hb9 hv x0 y0
     have x0:=(HB_V1.out.cell (World.block_lt_of_cell? _ _ HPx.out)).trans HPx.out
     have y0:=(HB_V1.out.cell (World.block_lt_of_cell? _ _ HPy.out)).trans HPy.out
     go_wp2_with fail
     clear x0 y0
     refine (rpaths_calls Bx dx x.1 Bx dx x.1 V1 (Kd.C_below HCx.out HB_V1.out) hdx (Kd.C_below HCx.out HB_V1.out) hdx (by omega)).mono ?_
     rintro e V2 ⟨rfl,nq,hv⟩
     rw [decide_eq_true rfl]
     have hq:Below V1.heap.size V1 V2:=by rw [hv];exact bdrewN (Below.refl _ _) nq
     have HB_V2:=Lib.hid (HB_V1.out.trans (hq.mono HB_V1.out.size))
     have HN_V2:=Lib.hid (Kd.N_below HN_V1.out hq)
     clear hv hq
     have y0:=(HB_V2.out.cell (World.block_lt_of_cell? _ _ HPy.out)).trans HPy.out
     go_wp2_with fail
     all_goals
      clear y0
      refine (rpaths_calls By dy y.1 Bx dx x.1 V2 (Kd.C_below HCy.out HB_V2.out) hdy (Kd.C_below HCx.out HB_V2.out) hdx (by omega)).mono ?_
      rintro e V3 ⟨rfl,nq,hv⟩
      rw [decide_eq_true HXY.out]
      have hq:Below V2.heap.size V2 V3:=by rw [hv];exact bdrewN (Below.refl _ _) nq
      have HB_V3:=Lib.hid (HB_V2.out.trans (hq.mono HB_V2.out.size))
      have HN_V3:=Lib.hid (Kd.N_below HN_V2.out hq)
      clear hv hq
      obtain ⟨la0,la1,la2,la3⟩:=c4A ((HB_V3.out.block _ (blk_lt HX8.out)).trans HX8.out)
      obtain ⟨lb0,lb1,lb2,lb3⟩:=c4A ((HB_V3.out.block _ (blk_lt HY8.out)).trans HY8.out)
      go_wp2_with fail
      all_goals
       clear la0 la1 la2 la3 lb0 lb1 lb2 lb3
       refine (show Calls Tryz.prog 76 #[.agg (fc a A c),.agg (fc b B d),.slice Bx x.1.length dx] _ _ from ralike_calls a b A B c d Bx dx x.1 _ (Kd.C_below HA8.out HB_V3.out) hca (Kd.C_below HD8.out HB_V3.out) hcb (by omega) (by omega) (Kd.C_below HCx.out HB_V3.out) hdx (by omega)).mono ?_
       rintro e V5 ⟨rfl,hq⟩
       have HB_V5:=Lib.hid (HB_V3.out.trans (hq.mono HB_V3.out.size))
       have HN_V5:=Lib.hid (Kd.N_below HN_V3.out hq)
       have hbv:=HB_V5.out
       have hbz:=hbv.size
       have HFP:=Lib.hid (path_FKC (Kd.F_step (Kd.C_F Kd.heap_string HCx.out) (W1:=V5) fun j hj _=>HB_V5.out.block j hj) hdx)
       obtain ⟨t,ht⟩:∃ t,alikeB a b x.1=t:=⟨_,rfl⟩
       have he:=HE.out
       rw [rest_xy _ _ _ _ _ _ (Int.not_lt.2 HLT.out),if_pos HXY.out.symm,ht] at he
       rw [ht]
       have HE2:=Lib.hid he
       clear he ht hq
       cases t
       ·go_wp2_with (at_builtin;refine Kd.N_append PathK (w0:=U8) U8.heap.size rfl (.tmp 94) (.tmp 96) 40 37 (.slice none 0 0) 24 rfl Tryz.underlying40 info_path rfl (by decide) (by decide) vo o x.1 [.slice Bx x.1.length dx] (fun _=>True) (fun k=>k<U8.heap.size) rfl rfl ?aP ?aK ?aF ?aO ?aB ?aS ?aL ?_;(case aP=>exact HFP.out);(case aK=>exact fun j hj=>⟨trivial,fun e=>by have:=Kd.N_base HN_V5.out j e.symm;omega⟩);(case aF=>exact fun _ _=>trivial);(case aO=>exact HN_V5.out);(case aB=>exact HB_V5.out);(case aS=>exact HB_V5.out.size);(case aL=>omega);intro v1 w11 hn1 hb11 hg11 hat11;have HN11:=Lib.hid hn1;have HB11:=Lib.hid hb11)
        clear hn1 hb11 hg11 hat11
        go_wp2_with fail
        go_roundw
        case rel=>exact Lib.hid ⟨X,Y,_,_,_,_,o++[x.1],rfl,by (try simp only [List.length_cons,List.length_nil]);omega,rfl,by (try simp only [List.length_cons,List.length_nil]);omega,by (try simp only [List.length_cons,List.length_nil,List.length_append]);omega,(by first | exact HQx.out.1 (by assumption) | exact HQx.out.2 (by assumption)),(by first | exact HQy.out.1 (by assumption) | exact HQy.out.2 (by assumption)),fun z hz=>HXL.out z (List.mem_cons_of_mem _ hz),fun z hz=>HYL.out z (List.mem_cons_of_mem _ hz),HN11.out,by rw [List.append_assoc];exact HE2.out,HB11.out⟩
        case measure=>simp only [lenS];omega
       ·skip
        go_wp2_with fail
        go_roundw
        case rel=>exact Lib.hid ⟨X,Y,_,_,_,_,o,rfl,by (try simp only [List.length_cons,List.length_nil]);omega,rfl,by (try simp only [List.length_cons,List.length_nil]);omega,by (try simp only [List.length_cons,List.length_nil,List.length_append]);omega,(by first | exact HQx.out.1 (by assumption) | exact HQx.out.2 (by assumption)),(by first | exact HQy.out.1 (by assumption) | exact HQy.out.2 (by assumption)),fun z hz=>HXL.out z (List.mem_cons_of_mem _ hz),fun z hz=>HYL.out z (List.mem_cons_of_mem _ hz),HN_V5.out,HE2.out,HB_V5.out⟩
        case measure=>simp only [lenS];omega
    have HXY:=Lib.hid hxy
    clear hxy
    have HQx:=Lib.hid (kept_pop HX.out (by simp only [List.length_cons];omega))
    have HB_V:=HB1
    have HN_V:=HN1
    clear HB1 HN1 HN HBW
    go_wp2_with fail
    generalize (wr.alloc (.cells #[] 9))=V at *
    have x0:=(HB_V.out.cell (World.block_lt_of_cell? _ _ HPx.out)).trans HPx.out
    have y0:=(HB_V.out.cell (World.block_lt_of_cell? _ _ HPy.out)).trans HPy.out
    refine start_ (n:=16) (S:=fun w'=>w'.cell? yd=some (.slice By y.1.length dy)∧w'.cell? xd=some (.slice Bx x.1.length dx)) (ds:=[]) (bmC 16 0) (by kernel_rfl) rfl rfl ⟨y0,x0⟩ (fun hHeld => ?_)
    refine pA 0 44 (bmC 16 1) ?_
    refine pA 1 45 (bmC 16 3) ?_
    refine pA 2 46 (bmC 16 7) ?_
    refine pA 3 47 (bmC 16 15) ?_
    refine pA 4 48 (bmC 16 31) ?_
    refine pA 5 49 (bmC 16 63) ?_
    refine pA 6 50 (bmC 16 127) ?_
    refine pA 8 52 (bmC 16 383) ?_
    refine pA 9 53 (bmC 16 895) ?_
    refine pA 10 54 (bmC 16 1919) ?_
    refine tA 7 51 (bmC 16 2047) hHeld ?_ (hy:=by
     rintro w' ⟨s0,s1⟩
     go_simp
     with_reducible rfl)
    refine tA 11 55 (bmC 16 4095) hHeld ?_ (hy:=by
     rintro w' ⟨s0,s1⟩
     go_simp
     with_reducible rfl)
    refine eA 12 56 (bmC 16 8191) (fun K hK => ?_)
    refine gA Tryz.func35 #[.slice By y.1.length dy,.slice Bx x.1.length dx] ?_
    refine (ahead_calls By dy y.1 Bx dx x.1 _ (Kd.C_below (Kd.C_below HCy.out HB_V.out) (bdrew (Below.refl V.heap.size V))) hdy (Kd.C_below (Kd.C_below HCx.out HB_V.out) (bdrew (Below.refl V.heap.size V))) hdx (by omega)).mono ?_
    rintro e V1 ⟨rfl,nn,hv⟩
    rw [decide_eq_false (Int.not_lt.2 HLT.out)]
    have hb9:Below V.heap.size V V1:=by rw [hv];exact bdrewN (bdrew (Below.refl V.heap.size V)) nn
    refine ⟨_,rfl,?_⟩
    refine hK.out _ _ ⟨(hb9.cell (World.block_lt_of_cell? _ _ y0)).trans y0,(hb9.cell (World.block_lt_of_cell? _ _ x0)).trans x0⟩ (fun hHeld => ?_)
    refine nA 56 ?_
    refine pA 13 57 (bmC 16 16383) ?_
    refine pA 14 58 (bmC 16 32767) ?_
    refine pA 15 43 (bmC 16 65535) ?_
    refine done_ (by kernel_rfl) ?_
    have HB_V1:=Lib.hid (HB_V.out.trans (hb9.mono HB_V.out.size))
    have HN_V1:=Lib.hid (Kd.N_below HN_V.out hb9)
    clear hb9 hv x0 y0
    have x0:=(HB_V1.out.cell (World.block_lt_of_cell? _ _ HPx.out)).trans HPx.out
    have y0:=(HB_V1.out.cell (World.block_lt_of_cell? _ _ HPy.out)).trans HPy.out
    go_wp2_with fail
    clear x0 y0
    refine (rpaths_calls Bx dx x.1 Bx dx x.1 V1 (Kd.C_below HCx.out HB_V1.out) hdx (Kd.C_below HCx.out HB_V1.out) hdx (by omega)).mono ?_
    rintro e V2 ⟨rfl,nq,hv⟩
    rw [decide_eq_true rfl]
    have hq:Below V1.heap.size V1 V2:=by rw [hv];exact bdrewN (Below.refl _ _) nq
    have HB_V2:=Lib.hid (HB_V1.out.trans (hq.mono HB_V1.out.size))
    have HN_V2:=Lib.hid (Kd.N_below HN_V1.out hq)
    clear hv hq
    have y0:=(HB_V2.out.cell (World.block_lt_of_cell? _ _ HPy.out)).trans HPy.out
    go_wp2_with fail
    all_goals
     clear y0
     refine (rpaths_calls By dy y.1 Bx dx x.1 V2 (Kd.C_below HCy.out HB_V2.out) hdy (Kd.C_below HCx.out HB_V2.out) hdx (by omega)).mono ?_
     rintro e V3 ⟨rfl,nq,hv⟩
     rw [decide_eq_false HXY.out]
     have hq:Below V2.heap.size V2 V3:=by rw [hv];exact bdrewN (Below.refl _ _) nq
     have HB_V3:=Lib.hid (HB_V2.out.trans (hq.mono HB_V2.out.size))
     have HN_V3:=Lib.hid (Kd.N_below HN_V2.out hq)
     clear hv hq
     obtain ⟨la0,la1,la2,la3⟩:=c4A ((HB_V3.out.block _ (blk_lt HX8.out)).trans HX8.out)
     obtain ⟨lb0,lb1,lb2,lb3⟩:=c4A ((HB_V3.out.block _ (blk_lt HY8.out)).trans HY8.out)
     go_wp2_with fail
     clear la0 la1 la2 la3 lb0 lb1 lb2 lb3
     refine (show Calls Tryz.prog 76 #[.agg (fc a A c),.agg (fc b B d),.slice Bx x.1.length dx] _ _ from ralike_calls a b A B c d Bx dx x.1 _ (Kd.C_below HA8.out HB_V3.out) hca (Kd.C_below HD8.out HB_V3.out) hcb (by omega) (by omega) (Kd.C_below HCx.out HB_V3.out) hdx (by omega)).mono ?_
     rintro e V5 ⟨rfl,hq⟩
     have HB_V5:=Lib.hid (HB_V3.out.trans (hq.mono HB_V3.out.size))
     have HN_V5:=Lib.hid (Kd.N_below HN_V3.out hq)
     have hbv:=HB_V5.out
     have hbz:=hbv.size
     have HFP:=Lib.hid (path_FKC (Kd.F_step (Kd.C_F Kd.heap_string HCx.out) (W1:=V5) fun j hj _=>HB_V5.out.block j hj) hdx)
     obtain ⟨t,ht⟩:∃ t,alikeB a b x.1=t:=⟨_,rfl⟩
     have he:=HE.out
     rw [rest_xy _ _ _ _ _ _ (Int.not_lt.2 HLT.out),if_neg (Ne.symm HXY.out),ht] at he
     rw [ht]
     have HE2:=Lib.hid he
     clear he ht hq
     cases t
     ·go_wp2_with (at_builtin;refine Kd.N_append PathK (w0:=U8) U8.heap.size rfl (.tmp 94) (.tmp 96) 40 37 (.slice none 0 0) 24 rfl Tryz.underlying40 info_path rfl (by decide) (by decide) vo o x.1 [.slice Bx x.1.length dx] (fun _=>True) (fun k=>k<U8.heap.size) rfl rfl ?aP ?aK ?aF ?aO ?aB ?aS ?aL ?_;(case aP=>exact HFP.out);(case aK=>exact fun j hj=>⟨trivial,fun e=>by have:=Kd.N_base HN_V5.out j e.symm;omega⟩);(case aF=>exact fun _ _=>trivial);(case aO=>exact HN_V5.out);(case aB=>exact HB_V5.out);(case aS=>exact HB_V5.out.size);(case aL=>omega);intro v1 w11 hn1 hb11 hg11 hat11;have HN11:=Lib.hid hn1;have HB11:=Lib.hid hb11)
      clear hn1 hb11 hg11 hat11
      go_wp2_with fail
      go_roundw
      case rel=>exact Lib.hid ⟨X,y :: Y,_,_,_,_,o++[x.1],rfl,by (try simp only [List.length_cons,List.length_nil]);omega,rfl,by (try simp only [List.length_cons,List.length_nil]);omega,by (try simp only [List.length_cons,List.length_nil,List.length_append]);omega,(by first | exact HQx.out.1 (by assumption) | exact HQx.out.2 (by assumption)),HY.out,fun z hz=>HXL.out z (List.mem_cons_of_mem _ hz),HYL.out,HN11.out,by rw [List.append_assoc];exact HE2.out,HB11.out⟩
      case measure=>simp only [lenS];omega
     ·skip
      go_wp2_with fail
      go_roundw
      case rel=>exact Lib.hid ⟨X,y :: Y,_,_,_,_,o,rfl,by (try simp only [List.length_cons,List.length_nil]);omega,rfl,by (try simp only [List.length_cons,List.length_nil]);omega,by (try simp only [List.length_cons,List.length_nil,List.length_append]);omega,(by first | exact HQx.out.1 (by assumption) | exact HQx.out.2 (by assumption)),HY.out,fun z hz=>HXL.out z (List.mem_cons_of_mem _ hz),HYL.out,HN_V5.out,HE2.out,HB_V5.out⟩
      case measure=>simp only [lenS];omega
theorem mrg_len:∀ (xs ys:List (List ByteArray)),(mrgP xs ys).length≤xs.length+ys.length
 | [],ys=>by rw [mrgP];simp
 | x :: xs,[]=>by rw [mrgP];simp
 | x :: xs,y :: ys=>by
  rw [mrgP]
  split
  ·have:=mrg_len (x :: xs) ys
   simp only [List.length_cons] at this ⊢
   omega
  ·split
   ·have:=mrg_len xs ys
    simp only [List.length_cons] at this ⊢
    omega
   ·have:=mrg_len xs (y :: ys)
    simp only [List.length_cons] at this ⊢
    omega
termination_by xs ys=>xs.length+ys.length
theorem go_lenC:∀ (r:List ByteArray) (t y:File) (k:Int),goP t r=(k,some y)→4 * r.length≤t.bulk
 | [],_,_,_,_=>Nat.zero_le _
 | m :: r,t,y,k,h=>by
  obtain ⟨x,_,hx,_,h2⟩:=goP_full h
  have h3:=go_lenC r x y k h2
  have h4:=bulk_child (List.mem_of_getElem? hx)
  simp only [List.length_cons]
  omega
theorem look_lenC {t u:File} {r:List ByteArray} (h:lookK t r≠lookK u r):r.length≤t.bulk+u.bulk:=by
 cases ht:lookK t r with
 | some z =>
  obtain ⟨y,h1,_⟩:=look_some ht
  have:=go_lenC r t y 0 h1
  omega
 | none =>
  cases hu:lookK u r with
  | some z =>
   obtain ⟨y,h1,_⟩:=look_some hu
   have:=go_lenC r u y 0 h1
   omega
  | none=>exact absurd (ht.trans hu.symm) h
theorem rchgR_len (a b:File):(rchgR a b).length≤a.bulk+b.bulk∧∀ x∈rchgR a b,x.length≤a.bulk+b.bulk:=by
 unfold rchgR
 by_cases h:(rightT a && rightT b)=true
 ·rw [if_pos h]
  rw [Bool.and_eq_true] at h
  refine ⟨?_,fun x hx=>look_lenC ((rchg_iff h.1 h.2 x).1 hx)⟩
  have h1:=List.length_filter_le (fun p => !alikeB a b p) (mrgP (pathsOf a) (pathsOf b))
  have h2:=mrg_len (pathsOf a) (pathsOf b)
  have h3:=kept_countC a
  have h4:=kept_countC b
  rw [← kept_pathsC,← kept_pathsC,List.length_map,List.length_map] at h2
  unfold rchgL
  rw [← kept_pathsC,← kept_pathsC] at *
  omega
 ·rw [if_neg h]
  exact ⟨Nat.zero_le _,fun x hx=>by cases hx⟩
theorem chg_isR {a b:File} {s:List (List ByteArray)} (h1:(rightT a && rightT b)=true→s.Perm (chgL a b)∧sortedP s) (h2:(rightT a && rightT b)=false→s=[]):s=rchgR a b:=by
 unfold rchgR
 by_cases h:(rightT a && rightT b)=true
 ·rw [if_pos h]
  rw [Bool.and_eq_true] at h
  exact chg_ref h.1 h.2 (h1 (by rw [h.1,h.2];rfl)).1 (h1 (by rw [h.1,h.2];rfl)).2
 ·rw [if_neg h]
  exact h2 (by simpa using h)
set_option maxHeartbeats 8000000 in
set_option maxRecDepth 100000 in
theorem lchanges_calls (a:File) (A:Option Addr) (c:Nat) (b:File) (B:Option Addr) (d:Nat) (w:World) (ha:FileK.C w A a.files.length a.files) (hca:a.files.length≤c) (hba:a.bulk≤1048576) (hb:FileK.C w B b.files.length b.files) (hcb:b.files.length≤d) (hbb:b.bulk≤1048576) (hG:Tab w) (hM:Maxed w) :
  Calls Tryz.prog 7 #[fileV a A c,fileV b B d] w fun e w'=>e=.returned (.bool true)∧Below w.heap.size w w':=by
 have h2:=two_boxes w (fc a A c) (fc b B d) 25 25
 have hb0:=((Below.refl w.heap.size w).alloc (Nat.le_refl _) (.cells (fc a A c) 25)).alloc (by simp) (.cells (fc b B d) 25)
 have I:=Lib.hid (Hd.base hb0 (by first | exact Nat.le_refl _ | exact Below.size hb0))
 replace I:=Lib.hid (Hd.and I.out (Hd.box (h2.1)))
 replace I:=Lib.hid (Hd.and I.out (Hd.box (h2.2)))
 replace I:=Lib.hid (Hd.and I.out (Hd.reads (Kd.C_below ha hb0)))
 replace I:=Lib.hid (Hd.and I.out (Hd.reads (Kd.C_below hb hb0)))
 have HG:=Lib.hid hG
 have HM:=Lib.hid hM
 obtain ⟨kk,hkk⟩:∃ k:Int,(if (rightT a && rightT b)=true then (0:Int) else 30)=k:=⟨_,rfl⟩
 have HKK:=Lib.hid hkk
 have HLN:=Lib.hid (rchgR_len a b)
 obtain ⟨L,hL⟩:∃ L,rchgR a b=L:=⟨_,rfl⟩
 rw [hL] at HLN
 have HL:=Lib.hid hL
 clear h2 ha hb hL hkk hG hM
 go_enter Tryz.func7,Tryz.ntmps7
 unfold fileV
 obtain ⟨la0,la1,la2,la3⟩:=c4A I.out.now.2.2.2.1
 obtain ⟨lb0,lb1,lb2,lb3⟩:=c4A I.out.now.2.2.1
 go_wp2_with fail
 clear la0 la1 la2 la3 lb0 lb1 lb2 lb3
 generalize ((w.alloc (.cells (fc a A c) 25)).alloc (.cells (fc b B d) 25))=W0 at *
 refine ((show Calls Tryz.prog 33 #[.agg (fc a A c),.agg (fc b B d)] _ _ from changed_calls a b A B c d _ (by omega) (by omega) I.out.now.2.1 hca I.out.now.1 hcb)).mono ?_
 rintro e w1 ⟨A1,c1,s1,rfl,hc1,hp1,hn1,hC1,hq1⟩
 replace I:=Lib.hid (Hd.mv I.out hq1)
 obtain rfl:s1=L:=(chg_isR hp1 hn1).trans HL.out
 have hkk:=HKK.out
 rw [hkk]
 clear hp1 hn1 hkk
 have HX:=Lib.hid hC1
 clear hC1
 obtain ⟨la0,la1,la2,la3⟩:=c4A I.out.now.2.2.2.1
 obtain ⟨lb0,lb1,lb2,lb3⟩:=c4A I.out.now.2.2.1
 go_wp2_with fail
 clear la0 la1 la2 la3 lb0 lb1 lb2 lb3
 refine ((show Calls Tryz.prog 34 #[.agg (fc a A c),.agg (fc b B d)] _ _ from rchanged_calls a b A B c d _ I.out.now.2.1 hca I.out.now.1 hcb (by omega) (by omega))).mono ?_
 rintro e w2 ⟨A2,c2,rfl,hc2,hC2,hq2⟩
 replace I:=Lib.hid (Hd.mv I.out hq2)
 have hL:=HL.out
 have hkk:=HKK.out
 rw [hL] at hc2 hC2 ⊢
 rw [hkk]
 have HX2:=Lib.hid (Kd.C_below HX.out hq2)
 have HY2:=Lib.hid hC2
 clear hC2 hL hkk
 go_wp2_with fail
 refine ((lives_calls _ (Tab_b HG.out I.out.now.2.2.2.2) (Maxed_below HM.out I.out.now.2.2.2.2))).mono ?_
 rintro e w3 ⟨rfl,hq3⟩
 replace I:=Lib.hid (Hd.mv I.out hq3)
 have HX3:=Lib.hid (Kd.C_below HX2.out hq3)
 have HY3:=Lib.hid (Kd.C_below HY2.out hq3)
 have ek:(kk == kk)=true:=beq_self_eq_true _
 go_wp2_with fail
 refine (lpaths_calls A1 c1 s1 A2 c2 _ HX3.out hc1 HY3.out hc2 (by have:=HLN.out.1;omega) (fun x hx=>by have:=HLN.out.2 x hx;omega)).mono ?_
 rintro e w4 ⟨rfl,hq4⟩
 replace I:=Lib.hid (Hd.mv I.out hq4)
 go_wp2_with fail
 go_ret
 exact ⟨rfl,I.out.now.2.2.2.2⟩
end Go.Proofs.YtdnhjnlhmfajnaaGreatDoor.G
end
