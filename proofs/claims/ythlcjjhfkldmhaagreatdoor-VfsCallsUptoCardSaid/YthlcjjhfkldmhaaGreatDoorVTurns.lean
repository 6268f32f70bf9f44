import Derived.Test.YthlcjjhfkldmhaaGreatDoorTTurn
import Derived.Test.YthlcjjhfkldmhaaGreatDoorTRWith
import Derived.Test.YthlcjjhfkldmhaaGreatDoorKit
import Derived.Test.YthlcjjhfkldmhaaGreatDoorSq
import Derived.Test.YthlcjjhfkldmhaaGreatDoorTCopy
import Derived.Test.YthlcjjhfkldmhaaGreatDoorTRight
set_option linter.unusedVariables false
set_option linter.unusedSimpArgs false
section
namespace Go.Proofs.YthlcjjhfkldmhaaGreatDoor.G
open Go.RowKit Go.Lib Go.Proofs.YthlcjjhfkldmhaaGreatDoorW.PrintWords Go.Proofs.YthlcjjhfkldmhaaGreatDoorW.PrintLast
set_option linter.unusedVariables false
theorem low_name {l l':List File} (n:ByteArray) (h:l.map File.name=l'.map File.name):lowB l n=lowB l' n:=by
 have hh:∀ l:List File,lowB l n=((l.map File.name).takeWhile fun x=>lessB x n).length:=by
  intro l
  unfold lowB
  induction l with
  | nil=>rfl
  | cons x l ih =>
   simp only [List.map_cons,List.takeWhile_cons]
   split
   ·simp only [List.length_cons,ih]
   ·rfl
 rw [hh,hh,h]
theorem set_names {l:List File} {i:Nat} {x x':File} (hx:l[i]? = some x) (hn:x'.name=x.name):(l.set i x').map File.name=l.map File.name:=by
 apply List.ext_getElem?
 intro j
 rw [List.getElem?_map,List.getElem?_map,List.getElem?_set]
 split
 ·rename_i h
  subst h
  rw [if_pos (List.getElem?_eq_some_iff.1 hx).1,hx]
  simp [hn]
 ·rfl
theorem goP_full {f:File} {n:ByteArray} {q:List ByteArray} {d:File} {k:Int} (h:goP f (n :: q)=(k,some d)):∃ x,f.kind=1∧f.files[lowB f.files n]? = some x∧x.name=n∧goP x q=(k,some d):=by
 rw [goP] at h
 split at h
 ·rename_i hk
  split at h
  ·rename_i x hx
   split at h
   ·rename_i he
    exact ⟨x,hk,hx,toList_inj.1 (eq_of_beq he),h⟩
   ·cases h
  ·cases h
 ·cases h
theorem goP_mk {f:File} {n:ByteArray} {q:List ByteArray} {x:File} (hk:f.kind=1) (hx:f.files[lowB f.files n]? = some x) (hn:x.name=n):goP f (n :: q)=goP x q:=by
 rw [goP,if_pos hk,hx]
 simp only
 rw [if_pos (by rw [hn];simp)]
theorem goP_zero:∀ (q:List ByteArray) (f d:File) (k:Int),goP f q=(k,some d)→k=0
 | [],f,d,k,h=>by rw [goP] at h;injection h with h _;exact h.symm
 | n :: q,f,d,k,h=>by
  obtain ⟨x,_,_,_,hg⟩:=goP_full h
  exact goP_zero q x d k hg
theorem go_put:∀ (q:List ByteArray) (f y d:File),goP f q=(0,some d)→y.name=d.name→goP (putP f q y) q=(0,some y)
 | [],f,y,d,h,hn=>by rw [putP,goP]
 | n :: q,f,y,d,h,hn=>by
  obtain ⟨x,hk,hx,hxn,hg⟩:=goP_full h
  have ih:=go_put q x y d hg hn
  have hpn:=putP_name q x y d 0 hg hn
  have hl:lowB (f.files.set (lowB f.files n) (putP x q y)) n=lowB f.files n:=low_name n (set_names hx hpn)
  have hlt:=(List.getElem?_eq_some_iff.1 hx).1
  rw [putP,hx]
  show goP {f with files:=f.files.set (lowB f.files n) (putP x q y)} (n :: q)=_
  exact (goP_mk (f:={f with files:=f.files.set (lowB f.files n) (putP x q y)}) (x:=putP x q y) hk (by show (f.files.set (lowB f.files n) (putP x q y))[lowB (f.files.set (lowB f.files n) (putP x q y)) n]? = _;rw [hl,List.getElem?_set_self hlt]) (hpn.trans hxn)).trans ih
end Go.Proofs.YthlcjjhfkldmhaaGreatDoor.G
end
section
namespace Go.Proofs.YthlcjjhfkldmhaaGreatDoor.G
open Go.RowKit Go.Lib Go.Proofs.YthlcjjhfkldmhaaGreatDoorW.PrintWords Go.Proofs.YthlcjjhfkldmhaaGreatDoorW.PrintLast
set_option linter.unusedVariables false
theorem nameIs_iff {n:ByteArray} {x:File}:nameIs n x=true↔x.name=n:=by
 unfold nameIs
 constructor
 ·intro h
  exact toList_inj.1 (eq_of_beq h)
 ·intro h
  rw [h]
  exact beq_self_eq_true _
theorem nameIs_ne {n:ByteArray} {x:File} (h:x.name≠n):nameIs n x=false:=by
 cases hh:nameIs n x
 ·rfl
 ·exact absurd (nameIs_iff.1 hh) h
theorem low_less {l:List File} {n:ByteArray}:∀ x∈l.take (lowB l n),lessB x.name n=true:=by
 intro x hx
 unfold lowB at hx
 rw [← List.prefix_iff_eq_take.1 (List.takeWhile_prefix _)] at hx
 exact List.all_eq_true.1 (List.all_takeWhile (p:=fun x:File=>lessB x.name n) (l:=l)) x hx
theorem low_not {l:List File} {n:ByteArray} {x:File} (h:l[lowB l n]? = some x):lessB x.name n=false:=by
 have hd:l.drop (lowB l n)=l.dropWhile fun x=>lessB x.name n:=by
  unfold lowB
  have h1:=List.takeWhile_append_dropWhile (p:=fun x:File=>lessB x.name n) (l:=l)
  have h2:(l.takeWhile (fun x=>lessB x.name n)++l.dropWhile (fun x=>lessB x.name n)).drop (l.takeWhile fun x=>lessB x.name n).length=l.dropWhile fun x=>lessB x.name n:=List.drop_left
  rwa [h1] at h2
 have h2:(l.drop (lowB l n)).head? = some x:=by rw [List.head?_drop];exact h
 rw [hd] at h2
 have h3:=List.head?_dropWhile_not (fun x:File=>lessB x.name n) l
 rw [h2] at h3
 simpa using h3
theorem less_ne {a b:ByteArray} (h:lessB a b=true):a≠b:=fun e=>by
 rw [e,less_irrefl] at h
 cases h
theorem low_find {l:List File} (hs:SortedN l) (n:ByteArray):(match l[lowB l n]? with | some x=>if x.name.toList == n.toList then some x else none | none=>none)=l.find? (nameIs n):=by
 have hpre:∀ x∈l.take (lowB l n),nameIs n x=false:=fun x hx=>nameIs_ne (less_ne (low_less x hx))
 have hsp:l=l.take (lowB l n)++l.drop (lowB l n):=(List.take_append_drop _ _).symm
 have h1:l.find? (nameIs n)=(l.drop (lowB l n)).find? (nameIs n):=by
  conv=>lhs;rw [hsp]
  rw [List.find?_append,List.find?_eq_none.2 (fun x hx=>by simp [hpre x hx])]
  rfl
 rw [h1]
 cases hx:l[lowB l n]? with
 | none =>
  have hlen:=List.getElem?_eq_none_iff.1 hx
  rw [List.drop_of_length_le hlen]
  rfl
 | some x =>
  obtain ⟨hlt,hxe⟩:=List.getElem?_eq_some_iff.1 hx
  have hd:l.drop (lowB l n)=x :: l.drop (lowB l n+1):=by rw [List.drop_eq_getElem_cons hlt,hxe]
  rw [hd,List.find?_cons]
  change _=match nameIs n x with | true=>some x | false=>_
  simp only
  cases hnm:nameIs n x
  ·have h2:(x.name.toList == n.toList)=false:=hnm
   rw [if_neg (by rw [h2];decide)]
   symm
   simp only
   refine List.find?_eq_none.2 fun y hy => ?_
   have hxn:x.name≠n:=fun e=>by rw [nameIs_iff.2 e] at hnm;cases hnm
   have hnx:=less_total (low_not hx) hxn
   obtain ⟨j,hj,hyj⟩:=List.mem_iff_getElem.1 hy
   rw [List.getElem_drop] at hyj
   rw [List.length_drop] at hj
   have hxy:=sorted_lt hs (i:=lowB l n) (j:=lowB l n+1+j) (by omega) (by omega)
   rw [hxe,hyj] at hxy
   have:=less_ne (less_trans hnx hxy)
   simp [nameIs_ne (Ne.symm this)]
  ·have h2:(x.name.toList == n.toList)=true:=hnm
   rw [if_pos h2]
theorem goP_find {f:File} (hs:SortF f) (n:ByteArray) (p:List ByteArray):goP f (n :: p)=if f.kind=1 then (match f.files.find? (nameIs n) with | some x=>goP x p | none=>(31,none)) else (32,none):=by
 rw [SortF_eq] at hs
 rw [goP,← low_find hs.1 n]
 split
 ·cases f.files[lowB f.files n]? with
  | none=>rfl
  | some x=>simp only;split <;> rfl
 ·rfl
theorem go_app:∀ (q r:List ByteArray) (t d:File),goP t q=(0,some d)→goP t (q++r)=goP d r
 | [],r,t,d,h=>by
  rw [goP] at h
  injection h with _ h
  injection h with h
  rw [h]
  rfl
 | a :: q,r,t,d,h=>by
  obtain ⟨x,hk,hx,hn,hg⟩:=goP_full h
  rw [List.cons_append,goP_mk hk hx hn]
  exact go_app q r x d hg
theorem go_sort:∀ (q:List ByteArray) (t d:File) (k:Int),SortF t→goP t q=(k,some d)→SortF d
 | [],t,d,k,hs,h=>by
  rw [goP] at h
  injection h with _ h
  injection h with h
  exact h ▸ hs
 | a :: q,t,d,k,hs,h=>by
  obtain ⟨x,hk,hx,hn,hg⟩:=goP_full h
  rw [SortF_eq] at hs
  exact go_sort q x d k (SortL_mem.1 hs.2 _ (List.mem_of_getElem? hx)) hg
theorem ins_shape (l:List File) (x:File):∃ r,insF l x=l.take (lowB l x.name)++x :: r∧(r=if foundB l x.name=true then l.drop (lowB l x.name+1) else l.drop (lowB l x.name)):=by
 unfold insF
 split
 ·exact ⟨_,rfl,rfl⟩
 ·exact ⟨_,rfl,rfl⟩
theorem ins_at (l:List File) (x:File):(insF l x)[lowB l x.name]? = some x:=by
 obtain ⟨r,h,_⟩:=ins_shape l x
 have hl:(l.take (lowB l x.name)).length=lowB l x.name:=by rw [List.length_take,Nat.min_eq_left (low_le _ _)]
 rw [h,List.getElem?_append_right (by omega),hl,Nat.sub_self]
 rfl
theorem found_at {l:List File} {n:ByteArray} (h:foundB l n=true):∃ y,l[lowB l n]? = some y∧y.name=n:=by
 unfold foundB at h
 cases hx:l[lowB l n]? with
 | none=>rw [hx] at h;cases h
 | some y=>rw [hx] at h;exact ⟨y,rfl,toList_inj.1 (eq_of_beq h)⟩
theorem find_set {p:File→Bool}:∀ {l:List File} {i:Nat} {x x':File},l[i]? = some x→p x=false→p x'=false→(l.set i x').find? p=l.find? p
 | [],i,x,x',h,_,_=>by simp at h
 | y :: l,0,x,x',h,h1,h2=>by
  obtain rfl:y=x:=by simpa using h
  rw [List.set_cons_zero,List.find?_cons,List.find?_cons,h1,h2]
 | y :: l,i+1,x,x',h,h1,h2=>by
  rw [List.set_cons_succ,List.find?_cons,List.find?_cons,find_set (by simpa using h) h1 h2]
theorem zero_bulk:zeroF.bulk=4:=by
 rw [bulk_eq]
 simp only [zeroF,bulkL_nil]
 rfl
theorem get_bulk (t:File) (p:List ByteArray):(getR t p).1.bulk≤t.bulk+4:=by
 unfold getR
 split
 ·split
  ·rename_i k y h
   have:=bulk_go p t y k h
   simp only
   omega
  ·simp only [zero_bulk]
   omega
 ·simp only [zero_bulk]
  omega
theorem go_none0:∀ {p:List ByteArray} {t:File},goP t p≠(0,none)
 | [],t,h=>by
  rw [goP] at h
  injection h with _ h
  cases h
 | n :: p,t,h=>by
  rw [goP] at h
  split at h
  ·split at h
   ·split at h
    ·exact go_none0 h
    ·injection h with h _
     cases h
   ·injection h with h _
    cases h
  ·injection h with h _
   cases h
end Go.Proofs.YthlcjjhfkldmhaaGreatDoor.G
end
section
namespace Go.Proofs.YthlcjjhfkldmhaaGreatDoor.G
open Go.RowKit Go.Lib Go.Proofs.YthlcjjhfkldmhaaGreatDoorW.PrintWords Go.Proofs.YthlcjjhfkldmhaaGreatDoorW.PrintLast
set_option linter.unusedVariables false
set_option linter.unusedSimpArgs false
theorem go_findR:∀ (p:List ByteArray) (t:File),SortF t→goP t p=if (findR t p).2=0 then (0,some (findR t p).1) else ((findR t p).2,none)
 | [],t,hs=>by rw [goP,findR];rfl
 | n :: p,t,hs=>by
  rw [goP_find hs,findR]
  split
  ·cases hx:t.files.find? (nameIs n) with
   | none=>rfl
   | some x =>
    simp only
    rw [SortF_eq] at hs
    exact go_findR p x (SortL_mem.1 hs.2 x (List.mem_of_find?_eq_some hx))
  ·rfl
theorem get_findR {t:File} (hs:SortF t) (p:List ByteArray):(match goP t p with | (_,some y)=>((y,0):File×Int) | (k,none)=>(zeroF,k))=if (findR t p).2=0 then ((findR t p).1,0) else (zeroF,(findR t p).2):=by
 rw [go_findR p t hs]
 by_cases h:(findR t p).2=0
 ·rw [if_pos h,if_pos h]
 ·rw [if_neg h,if_neg h]
theorem withL_pre (gone:Bool) (f:File) (n:ByteArray) (last:Bool) (rec:File→File) (r:List File) (put:Bool):∀ (a:List File),(∀ y∈a,lessB y.name n=true)→withL gone f n last rec (a++r) put=a++withL gone f n last rec r put
 | [],_=>rfl
 | y :: a,h=>by
  have hy:=h y List.mem_cons_self
  have hb:Op.bytesLess y.name.toList n.toList=true:=hy
  have hi:insB gone n last put y=false:=by simp [insB,hb]
  have hc:chO last n rec y=[y]:=by
   unfold chO
   rw [if_neg (by rw [nameIs_ne (less_ne hy)];decide)]
  rw [List.cons_append,withL,hi,hc,Bool.or_false,withL_pre gone f n last rec r put a (fun z hz=>h z (List.mem_cons_of_mem _ hz))]
  rfl
theorem withL_post (gone:Bool) (f:File) (n:ByteArray) (last:Bool) (rec:File→File) (put:Bool) (hp:(last && !put && !gone)=false):∀ (r:List File),(∀ y∈r,y.name≠n)→withL gone f n last rec r put=r
 | [],_=>by rw [withL,if_neg (by rw [hp];decide)]
 | y :: r,h=>by
  have hi:insB gone n last put y=false:=by simp [insB,hp]
  have hc:chO last n rec y=[y]:=by
   unfold chO
   rw [if_neg (by rw [nameIs_ne (h y List.mem_cons_self)];decide)]
  rw [withL,hi,hc,Bool.or_false,withL_post gone f n last rec put hp r (fun z hz=>h z (List.mem_cons_of_mem _ hz))]
  rfl
theorem drop_other {l:List File} (hs:SortedN l) {n:ByteArray} {y:File} {r:List File} (h:l.drop (lowB l n)=y :: r):∀ z∈r,z.name≠n:=by
 intro z hz e
 have hlt:lowB l n<l.length:=by
  rcases Nat.lt_or_ge (lowB l n) l.length with h0 | h0
  ·exact h0
  ·rw [List.drop_of_length_le h0] at h
   cases h
 have hd:=List.drop_eq_getElem_cons hlt
 rw [h] at hd
 injection hd with h1 h2
 have hx:l[lowB l n]? = some y:=by rw [List.getElem?_eq_getElem hlt,h1]
 rw [h2] at hz
 obtain ⟨j,hj,hzj⟩:=List.mem_iff_getElem.1 hz
 rw [List.getElem_drop] at hzj
 rw [List.length_drop] at hj
 have hyz:=sorted_lt hs (i:=lowB l n) (j:=lowB l n+1+j) (by omega) (by omega)
 rw [← h1,hzj,e] at hyz
 rw [low_not hx] at hyz
 cases hyz
theorem with_ins (f:File) (rec:File→File) {l:List File} (hs:SortedN l):withL false f f.name true rec l false=insF l f:=by
 have hsp:l=l.take (lowB l f.name)++l.drop (lowB l f.name):=(List.take_append_drop _ _).symm
 have h1:withL false f f.name true rec l false=l.take (lowB l f.name)++withL false f f.name true rec (l.drop (lowB l f.name)) false:=by
  conv=>lhs;rw [hsp]
  exact withL_pre _ _ _ _ _ _ _ _ low_less
 rw [h1]
 unfold insF
 cases hd:l.drop (lowB l f.name) with
 | nil =>
  have hlen:=List.drop_eq_nil_iff.1 hd
  have hf:foundB l f.name=false:=by
   unfold foundB
   rw [List.getElem?_eq_none hlen]
  rw [if_neg (by rw [hf];decide)]
  rfl
 | cons y r =>
  have hlt:lowB l f.name<l.length:=by
   rcases Nat.lt_or_ge (lowB l f.name) l.length with h0 | h0
   ·exact h0
   ·rw [List.drop_of_length_le h0] at hd
    cases hd
  have hdd:=List.drop_eq_getElem_cons hlt
  rw [hd] at hdd
  injection hdd with e1 e2
  have hx:l[lowB l f.name]? = some y:=by rw [List.getElem?_eq_getElem hlt,e1]
  have hnl:Op.bytesLess y.name.toList f.name.toList=false:=low_not hx
  have hi:insB false f.name true false y=true:=by simp [insB,hnl]
  have hr:=withL_post false f f.name true rec true rfl r (drop_other hs hd)
  have hfb:foundB l f.name=nameIs f.name y:=by
   unfold foundB
   rw [hx]
   rfl
  rw [withL,hi,Bool.or_true,hr,hfb,← e2]
  unfold chO
  rw [if_pos rfl,if_pos rfl]
  cases nameIs f.name y <;> rfl
theorem with_del (f:File) (n:ByteArray) (rec:File→File) {l:List File} (hs:SortedN l) (hf:foundB l n=true):withL true f n true rec l false=delF l n:=by
 have hsp:l=l.take (lowB l n)++l.drop (lowB l n):=(List.take_append_drop _ _).symm
 have h1:withL true f n true rec l false=l.take (lowB l n)++withL true f n true rec (l.drop (lowB l n)) false:=by
  conv=>lhs;rw [hsp]
  exact withL_pre _ _ _ _ _ _ _ _ low_less
 rw [h1]
 unfold delF
 obtain ⟨y,hy,hyn⟩:=found_at hf
 obtain ⟨hlt,hye⟩:=List.getElem?_eq_some_iff.1 hy
 have hd:l.drop (lowB l n)=y :: l.drop (lowB l n+1):=by rw [List.drop_eq_getElem_cons hlt,hye]
 have hi:insB true n true false y=false:=by simp [insB]
 have hc:chO true n rec y=[]:=by
  unfold chO
  rw [if_pos (nameIs_iff.2 hyn),if_pos rfl]
 rw [hd,withL,hi,hc,Bool.or_false,withL_post true f n true rec false rfl _ (drop_other hs hd)]
 rfl
theorem with_set (gone:Bool) (f:File) (n:ByteArray) (rec:File→File) {l:List File} (hs:SortedN l) {y:File} (hy:l[lowB l n]? = some y) (hyn:y.name=n):withL gone f n false rec l false=l.set (lowB l n) (rec y):=by
 have hsp:l=l.take (lowB l n)++l.drop (lowB l n):=(List.take_append_drop _ _).symm
 have h1:withL gone f n false rec l false=l.take (lowB l n)++withL gone f n false rec (l.drop (lowB l n)) false:=by
  conv=>lhs;rw [hsp]
  exact withL_pre _ _ _ _ _ _ _ _ low_less
 obtain ⟨hlt,hye⟩:=List.getElem?_eq_some_iff.1 hy
 have hd:l.drop (lowB l n)=y :: l.drop (lowB l n+1):=by rw [List.drop_eq_getElem_cons hlt,hye]
 have hi:insB gone n false false y=false:=by simp [insB]
 have hc:chO false n rec y=[rec y]:=by
  unfold chO
  rw [if_pos (nameIs_iff.2 hyn),if_neg (by decide)]
 rw [h1,hd,withL,hi,hc,Bool.or_false,withL_post gone f n false rec false rfl _ (drop_other hs hd),List.set_eq_take_append_cons_drop,if_pos hlt]
 rfl
theorem with_put:∀ (q:List ByteArray) (t d f:File),SortF t→goP t q=(0,some d)→withR false f (q++[f.name]) t=putP t q {d with files:=insF d.files f}
 | [],t,d,f,hs,h=>by
  rw [goP] at h
  injection h with _ h
  injection h with h
  subst h
  rw [SortF_eq] at hs
  rw [List.nil_append,withR,putP,show ([]:List ByteArray).isEmpty=true from rfl,with_ins f _ hs.1]
 | a :: q,t,d,f,hs,h=>by
  obtain ⟨x,hk,hx,hn,hg⟩:=goP_full h
  rw [SortF_eq] at hs
  have hxs:=SortL_mem.1 hs.2 x (List.mem_of_getElem? hx)
  have hne:(q++[f.name]).isEmpty=false:=by cases q <;> rfl
  rw [List.cons_append,withR,hne,with_set false f a _ hs.1 hx hn,with_put q x d f hxs hg,putP,hx]
theorem with_drop (f:File):∀ (q:List ByteArray) (t d:File) (n:ByteArray),SortF t→goP t q=(0,some d)→foundB d.files n=true→withR true f (q++[n]) t=putP t q {d with files:=delF d.files n}
 | [],t,d,n,hs,h,hf=>by
  rw [goP] at h
  injection h with _ h
  injection h with h
  subst h
  rw [SortF_eq] at hs
  rw [List.nil_append,withR,putP,show ([]:List ByteArray).isEmpty=true from rfl,with_del f n _ hs.1 hf]
 | a :: q,t,d,n,hs,h,hf=>by
  obtain ⟨x,hk,hx,hn,hg⟩:=goP_full h
  rw [SortF_eq] at hs
  have hxs:=SortL_mem.1 hs.2 x (List.mem_of_getElem? hx)
  have hne:(q++[n]).isEmpty=false:=by cases q <;> rfl
  rw [List.cons_append,withR,hne,with_set true f a _ hs.1 hx hn,with_drop f q x d n hxs hg hf,putP,hx]
end Go.Proofs.YthlcjjhfkldmhaaGreatDoor.G
end
section
namespace Go.Proofs.YthlcjjhfkldmhaaGreatDoor.G
open Go.RowKit Go.Lib Go.Proofs.YthlcjjhfkldmhaaGreatDoorW.PrintWords Go.Proofs.YthlcjjhfkldmhaaGreatDoorW.PrintLast
set_option linter.unusedVariables false
set_option linter.unusedSimpArgs false
def bp (n m:Nat):Array Bool:=((List.range n).map (fun j=>m.testBit j)).toArray
theorem Reach_below {w w':World} (hb:Below w.heap.size w w'):∀ {p:List ByteArray} {ad:Addr} {f:File} {ad':Addr} {y:File},Reach w ad f p ad' y→Reach w' ad f p ad' y
 | [],_,_,_,_,h=>h
 | n :: p,ad,f,ad',y,⟨b,c,x,h1,h2,h3⟩=>⟨b,c,x,(hb.cell (World.block_lt_of_cell? w _ h1)).trans h1,h2,Reach_below hb h3⟩
theorem cell_same {W W':World} {g:Nat} (h:W.heap[g]? = W'.heap[g]?) (j:Nat):W.cell? ⟨g,j,none⟩=W'.cell? ⟨g,j,none⟩:=by simp [World.cell?,h]
theorem three_all (w:World) (cs ds es:Array Value) (t u v:TypeId):(((w.alloc (.cells cs t)).alloc (.cells ds u)).alloc (.cells es v)).heap[w.heap.size]? = some (.cells cs t (0,0))∧(((w.alloc (.cells cs t)).alloc (.cells ds u)).alloc (.cells es v)).heap[w.heap.size+1]? = some (.cells ds u (0,0))∧(((w.alloc (.cells cs t)).alloc (.cells ds u)).alloc (.cells es v)).heap[w.heap.size+2]? = some (.cells es v (0,0)) :=
 ⟨(Below.heap_alloc _ _ _ (by simp;omega)).trans (two_boxes w cs ds t u).1,(Below.heap_alloc _ _ _ (by simp)).trans (two_boxes w cs ds t u).2,three_boxes w cs ds es t u v⟩
set_option maxHeartbeats 8000000 in
set_option maxRecDepth 100000 in
theorem put_calls (t f:File) (A Af:Option Addr) (c cf:Nat) (Ap:Option Addr) (cp:Nat) (q:List ByteArray) (n:ByteArray) (w:World) (hr:FileK.C w A t.files.length t.files) (hc:t.files.length≤c) (hbt:t.bulk≤1000000000) (hf:FileK.C w Af f.files.length f.files) (hcf:f.files.length≤cf) (hbf:f.bulk≤1000000000) (hn:n.size≤1000000000) (hp:Kd.C Kd.string w Ap (q++[n]).length (q++[n])) (hcp:q.length+1≤cp) (hpl:q.length≤1000000000) :
  Calls Tryz.prog 115 #[fileV t A c,.slice Ap (q.length+1) cp,fileV f Af cf] w fun e w'=>∃ A' c',e=.returned (.tuple #[.agg #[.string (putR t q n f).1.name,.int .u8 (putR t q n f).1.kind,.string (putR t q n f).1.data,.slice A' (putR t q n f).1.files.length c'],.int .i64 (putR t q n f).2])∧(putR t q n f).1.files.length≤c'∧(∀ W':World,(∀ k,w.heap.size≤k→k<w'.heap.size→W'.heap[k]? = w'.heap[k]?)→FileK.C W' A' (putR t q n f).1.files.length (putR t q n f).1.files)∧Below w.heap.size w w':=by
 have h3:=three_all w (fc t A c) (fc f Af cf) zC 25 25 25
 have hb0:=(((Below.refl w.heap.size w).alloc (Nat.le_refl _) (.cells (fc t A c) 25)).alloc (by simp) (.cells (fc f Af cf) 25)).alloc (by simp;omega) (.cells zC 25)
 have HP:=Lib.hid hp
 have HT:=Lib.hid hr
 have HF:=Lib.hid hf
 have HGR:Hid (putR t q n f=if rightT t=true then (match goP t q with
   | (_,some d)=>if d.kind=1 then (if rightT (putP t q {d with files:=insF d.files (nameF f n)})=true then (putP t q {d with files:=insF d.files (nameF f n)},0) else (zeroF,30)) else (zeroF,32)
   | (k,none)=>(zeroF,k)) else (zeroF,30)):=Lib.hid rfl
 generalize putR t q n f=gr at *
 have HRT:=Lib.hid (fun W (h:Below w.heap.size w W)=>(show Calls Tryz.prog 38 #[.agg (fc t A c)] W _ from right_calls t A c W (by omega) (Kd.C_below hr h) hc))
 have HCP:=Lib.hid (fun W (h:Below w.heap.size w W)=>(show Calls Tryz.prog 21 #[.agg (fc t A c)] W _ from copy_apart t.bulk t A c W (Nat.le_refl _) (by omega) (Kd.C_below hr h) hc))
 have HCF:=Lib.hid (fun W (h:Below w.heap.size w W)=>(show Calls Tryz.prog 21 #[.agg (fc f Af cf)] W _ from copy_apart f.bulk f Af cf W (Nat.le_refl _) (by omega) (Kd.C_below hf h) hcf))
 have HQ:=Lib.hid (show Kd.C Kd.string w Ap q.length q from by
  have h1:=Kd.C_take hp (m:=q.length) (by simp)
  rwa [List.take_left'  rfl] at h1)
 have HGC:=Lib.hid (fun W ad A' c' (h:Below w.heap.size w W) h1 h2=>get_calls t ad A' c' Ap cp q W h1 (by omega) h2 (Kd.C_below HQ.out h) (by omega) (by omega))
 have H1:=Lib.hid h3.1
 have H2:=Lib.hid h3.2.1
 have H3:=Lib.hid h3.2.2
 obtain ⟨t0,t1,t2,t3⟩:=c4A h3.1
 have hk1:((q.length:Int)+1 - 1)=(q.length:Int):=by omega
 clear hp hr hf h3
 go_enter Tryz.func115,Tryz.ntmps115
 unfold fileV
 go_wp2_with fail
 generalize (((w.alloc (.cells (fc t A c) 25)).alloc (.cells (fc f Af cf) 25)).alloc (.cells zC 25))=W0 at *
 have hz0:=blk_lt H3.out
 refine (HRT.out _ hb0).mono ?_
 rintro e w1 ⟨rfl,hb1'⟩
 have hs1:=hb1'.size
 have hb1:=bstep hb0 hb0.size hb1'
 have H11:=Lib.hid ((hb1'.block _ (blk_lt H1.out)).trans H1.out)
 have H21:=Lib.hid ((hb1'.block _ (blk_lt H2.out)).trans H2.out)
 have HZ1:=Lib.hid ((hb1'.block _ (blk_lt H3.out)).trans H3.out)
 clear t0 t1 t2 t3
 cases hrt:rightT t
 ·have HG:Hid (gr=(zeroF,30)):=Lib.hid (by rw [HGR.out,if_neg (by rw [hrt];decide)])
  have HZ9:=Lib.hid (store4_box HZ1.out (.string ⟨#[]⟩) (.int .u8 0) (.string ⟨#[]⟩) (.slice none 0 0))
  have HB9:=Lib.hid (store4_below hb1 (g:=w.heap.size+2) (by omega) (.string ⟨#[]⟩) (.int .u8 0) (.string ⟨#[]⟩) (.slice none 0 0))
  obtain ⟨z0,z1,z2,z3⟩:=c4A HZ1.out
  have u0:=unfr HZ1.out 0
  have u1:=unfr HZ1.out 1
  have u2:=unfr HZ1.out 2
  have u3:=unfr HZ1.out 3
  go_wp2_with fail
  refine bodyPost_ret (results_ct rfl _ _ (w.heap.size+2) 25 zC (0,0) _ rfl HZ9.out Tryz.underlying25 rfl (by kernel_rfl)) rfl ?_
  rw [HG.out]
  exact ⟨none,0,rfl,Nat.le_refl _,fun _ _=>Kd.C_nil FileK _,HB9.out⟩
 ·have HG1:=HGR.out
  rw [if_pos hrt] at HG1
  have HG2:=Lib.hid HG1
  have HS:=Lib.hid (right_sort hrt)
  clear HG1
  obtain ⟨t0,t1,t2,t3⟩:=c4A H11.out
  go_wp2_with fail
  refine (HCP.out _ hb1).mono ?_
  rintro e w2 ⟨v,bl,rfl,hft,hnd,hb2'⟩
  have hs2:=hb2'.size
  have hb2:=bstep hb1 hb1.size hb2'
  have H22:=Lib.hid ((hb2'.block _ (blk_lt H21.out)).trans H21.out)
  have HZ2:=Lib.hid ((hb2'.block _ (blk_lt HZ1.out)).trans HZ1.out)
  have hz1:=blk_lt HZ1.out
  clear t0 t1 t2 t3
  obtain ⟨A1,c1,rfl,hc1,hC1⟩:=FT_reads _ _ _ _ _ hft
  have hba:Below w2.heap.size w2 (w2.alloc (.cells (fc t A1 c1) 25)):=below_alloc (Below.refl _ _) _
  have HH3:Hid (HeldC w2.heap.size w1.heap.size t (.slice A1 t.files.length c1) bl (w2.alloc (.cells (fc t A1 c1) 25))):=Lib.hid ⟨blk_new w2 _,FT_below hft hba,hnd,fun k hk e=>by have:=(FT_lt _ _ _ _ _ hft k hk).1;omega⟩
  have hb3:=bstep hb2 hb2.size hba
  have H23:=Lib.hid ((hba.block _ (blk_lt H22.out)).trans H22.out)
  have HZ3:=Lib.hid ((hba.block _ (blk_lt HZ2.out)).trans HZ2.out)
  have HBL2:=Lib.hid (FT_lt _ _ _ _ _ hft)
  clear hft hnd hC1 hba
  go_wp2_with fail
  generalize w2.alloc (.cells (fc t A1 c1) 25)=W3 at *
  have hz3:=blk_lt HH3.out.box
  obtain ⟨A2,c2,he2,hat2⟩:=HH3.out.at
  injection he2 with e1 _ e2
  subst e1
  subst e2
  refine (HGC.out W3 _ _ _ hb3 hat2 HS.out).mono ?_
  clear hat2
  rintro e w4 ⟨hb4',⟨ad',d,A',c',hgo,rfl,hat,hre,hdb,hds⟩ | ⟨k,hk0,hgo,rfl⟩⟩
  rotate_left
  ·have HG:Hid (gr=(zeroF,k)):=Lib.hid (by rw [HG2.out,hgo])
   have k1:(k != 0)=true:=by rw [bne_iff_ne];exact hk0
   have hs4:=hb4'.size
   have hb4:=bstep hb3 hb3.size hb4'
   have HZ4:=Lib.hid ((hb4'.block _ (blk_lt HZ3.out)).trans HZ3.out)
   clear hgo
   have HZ9:=Lib.hid (store4_box HZ4.out (.string ⟨#[]⟩) (.int .u8 0) (.string ⟨#[]⟩) (.slice none 0 0))
   have HB9:=Lib.hid (store4_below hb4 (g:=w.heap.size+2) (by omega) (.string ⟨#[]⟩) (.int .u8 0) (.string ⟨#[]⟩) (.slice none 0 0))
   obtain ⟨z0,z1,z2,z3⟩:=c4A HZ4.out
   have u0:=unfr HZ4.out 0
   have u1:=unfr HZ4.out 1
   have u2:=unfr HZ4.out 2
   have u3:=unfr HZ4.out 3
   go_wp2_with fail
   refine bodyPost_ret (results_ct rfl _ _ (w.heap.size+2) 25 zC (0,0) _ rfl HZ9.out Tryz.underlying25 rfl (by kernel_rfl)) rfl ?_
   rw [HG.out]
   exact ⟨none,0,rfl,Nat.le_refl _,fun _ _=>Kd.C_nil FileK _,HB9.out⟩
  ·have hg2:=HG2.out
   rw [hgo] at hg2
   simp only at hg2
   have hs4:=hb4'.size
   have hb4:=bstep hb3 hb3.size hb4'
   have H24:=Lib.hid ((hb4'.block _ (blk_lt H23.out)).trans H23.out)
   have HZ4:=Lib.hid ((hb4'.block _ (blk_lt HZ3.out)).trans HZ3.out)
   have HH4:=Lib.hid (HH3.out.below hb4')
   have x1:=(hb4'.cell (World.block_lt_of_cell? _ _ hat.c1)).trans hat.c1
   have HRE:=Lib.hid (Reach_below hb4' hre)
   have HGO:=Lib.hid hgo
   have HAT:=Lib.hid (⟨(hb4'.cell (World.block_lt_of_cell? _ _ hat.c3)).trans hat.c3,hat.le,Kd.C_below hat.ch hb4'⟩:w4.cell? ⟨ad'.block,ad'.off+3,none⟩=some (.slice A' d.files.length c')∧d.files.length≤c'∧FileK.C w4 A' d.files.length d.files)
   have HDS:=Lib.hid hds
   clear hgo hat hre hds
   by_cases hk:d.kind=1
   rotate_left
   ·rw [if_neg hk] at hg2
    have HG:=Lib.hid hg2
    have k1:(d.kind != 1)=true:=by rw [bne_iff_ne];exact hk
    clear hg2 hk
    have HZ9:=Lib.hid (store4_box HZ4.out (.string ⟨#[]⟩) (.int .u8 0) (.string ⟨#[]⟩) (.slice none 0 0))
    have HB9:=Lib.hid (store4_below hb4 (g:=w.heap.size+2) (by omega) (.string ⟨#[]⟩) (.int .u8 0) (.string ⟨#[]⟩) (.slice none 0 0))
    obtain ⟨z0,z1,z2,z3⟩:=c4A HZ4.out
    have u0:=unfr HZ4.out 0
    have u1:=unfr HZ4.out 1
    have u2:=unfr HZ4.out 2
    have u3:=unfr HZ4.out 3
    go_wp2_with fail
    refine bodyPost_ret (results_ct rfl _ _ (w.heap.size+2) 25 zC (0,0) _ rfl HZ9.out Tryz.underlying25 rfl (by kernel_rfl)) rfl ?_
    rw [HG.out]
    exact ⟨none,0,rfl,Nat.le_refl _,fun _ _=>Kd.C_nil FileK _,HB9.out⟩
   ·rw [if_pos hk] at hg2
    have HG3:=Lib.hid hg2
    clear hg2
    obtain ⟨f0,f1,f2,f3⟩:=c4A H24.out
    go_wp2_with fail
    refine (HCF.out _ hb4).mono ?_
    rintro e w5 ⟨vx,bz,rfl,hfx,hzn,hb5'⟩
    have hs5:=hb5'.size
    have hb5:=bstep hb4 hb4.size hb5'
    have H25:=Lib.hid ((hb5'.block _ (blk_lt H24.out)).trans H24.out)
    have HZ5:=Lib.hid ((hb5'.block _ (blk_lt HZ4.out)).trans HZ4.out)
    have HH5:=Lib.hid (HH4.out.below hb5')
    have HRE5:=Lib.hid (Reach_below hb5' HRE.out)
    have HBZ:=Lib.hid (FT_lt _ _ _ _ _ hfx)
    clear f0 f1 f2 f3
    obtain ⟨A3,c3,rfl,hc3,hC3⟩:=FT_reads _ _ _ _ _ hfx
    clear hC3
    have hb57:Below w5.heap.size w5 (w5.alloc (.cells #[.string n,.int .u8 f.kind,.string f.data,.slice A3 f.files.length c3] 25)):=below_alloc (Below.refl _ _) _
    have hb6:=bstep hb5 hb5.size (below_alloc (Below.refl w5.heap.size w5) (.cells (fc f A3 c3) 25))
    have HXB6:=Lib.hid (blk_new w5 (.cells (fc f A3 c3) 25))
    have HXB7:=Lib.hid (blk_new w5 (.cells #[.string n,.int .u8 f.kind,.string f.data,.slice A3 f.files.length c3] 25))
    have hs7:(w5.alloc (.cells #[.string n,.int .u8 f.kind,.string f.data,.slice A3 f.files.length c3] 25)).heap.size=w5.heap.size+1:=by simp
    obtain ⟨pad,rfl,hx⟩:=Kd.at_string HP.out (q.length:Int) (by omega) (by simp;omega)
    rw [Int.toNat_natCast] at hx
    have he:rdOf ByteArray.empty (q++[n]) (q.length:Int)=n:=by simp [rdOf]
    rw [he] at hx
    clear he
    have p0:=cell_of (j:=0) HXB6.out rfl
    have pf0:=unfr HXB6.out 0
    have hx6:=(hb6.cell (World.block_lt_of_cell? w _ hx)).trans hx
    clear hx
    go_wp2_with fail
    clear p0 pf0 hx6
    generalize w5.alloc (.cells #[.string n,.int .u8 f.kind,.string f.data,.slice A3 f.files.length c3] 25)=W7 at *
    have hb7:=bstep hb5 hb5.size hb57
    have HZ7:=Lib.hid ((hb57.block _ (blk_lt HZ5.out)).trans HZ5.out)
    have HH7:=Lib.hid (HH5.out.below hb57)
    have HRE7:=Lib.hid (Reach_below hb57 HRE5.out)
    have HFX7:=Lib.hid (FT_below hfx hb57)
    clear hfx hb6 HXB6
    obtain ⟨g,o,v',inner,bs,rfl,hc,⟨gcs,hgc⟩,hgm,ho,hL,hN,hbs,hvb,hT⟩:=turnC HH7.out HRE7.out
    have y3:W7.cell? ⟨g,o+3,none⟩=some (.slice A' d.files.length c'):=by
     have h1:=HAT.out.1
     have h2:=(hb5'.cell (World.block_lt_of_cell? _ _ h1)).trans h1
     exact (hb57.cell (World.block_lt_of_cell? _ _ h2)).trans h2
    obtain rfl:v'=.slice A' d.files.length c':=by
     rw [y3] at hc
     injection hc with hc
     exact hc.symm
    have yn:W7.drew.cell? ⟨w5.heap.size,0,none⟩=some (.string n):=cell_of (j:=0) HXB7.out rfl
    have hss:=HDS.out
    rw [SortF_eq] at hss
    have hdl:=bulkL_len d.files
    have hde:=bulk_eq d
    have HFI:=Lib.hid (fun W (h:Below W7.heap.size W7 W)=>find_calls A' c' d.files n W (Kd.C_below (Kd.C_below (Kd.C_below HAT.out.2.2 hb5') hb57) h) HAT.out.2.1 (by omega) hss.1)
    have HT9:=Lib.hid hT
    have HO9:=Lib.hid ho
    have HL9:=Lib.hid hL
    have HVB:=Lib.hid hvb
    have HBS:=Lib.hid hbs
    have hdl2:d.files.length≤1000000000:=by omega
    clear hT ho hL hvb hbs hss hdl hde hc
    have y3d:W7.drew.cell? ⟨g,o+3,none⟩=some (.slice A' d.files.length c'):=y3
    go_region_with (go_at_call 126;refine (HFI.out _ (bdrew (Below.refl _ _))).mono ?_;rintro e w8 ⟨rfl,hb8'⟩)
    all_goals
     have hb8:Below W7.heap.size W7 w8:=(bdrew (Below.refl W7.heap.size W7)).trans hb8'
     have hs8:=hb8.size
     have hz7:=blk_lt HZ7.out
     have hxb7:=blk_lt HXB7.out
     have hgl:g<W7.heap.size:=blk_lt hgc
     have HZ8:=Lib.hid ((hb8.block _ hz7).trans HZ7.out)
     have HXB8:=Lib.hid ((hb8.block _ hxb7).trans HXB7.out)
     have HGC8:=Lib.hid ((hb8.block _ hgl).trans hgc)
     have y38:w8.cell? ⟨g,o+3,none⟩=some (.slice A' d.files.length c'):=(hb8.cell (p:=⟨g,o+3,none⟩) hgl).trans y3
     have hb8w:=bstep hb7 hb7.size hb8
     have htbl:=blk_lt HH7.out.box
     have hbW1:∀ k∈bl,k<w2.heap.size∧w1.heap.size≤k:=HBL2.out
     have hs8d:w8.drew.heap.size=w8.heap.size:=rfl
     have Y3:=Lib.hid y3
     have hFN:FT w1.heap.size (nameF f n) W7 (.slice A3 f.files.length c3) bz:=by
      have h1:=FT_lower (B':=w1.heap.size) (by omega) _ _ _ _ HFX7.out
      rw [FT_eq] at h1 ⊢
      exact h1
     have HFN:=Lib.hid hFN
     clear y3 y3d yn hb8' hFN
     cases hfb:foundB d.files n
     ·obtain ⟨i,hi⟩:∃ i,lowB d.files n=i:=⟨_,rfl⟩
      have hil:=low_le d.files n
      rw [hi] at hil
      have HI9:=Lib.hid hi
      have HFB:=Lib.hid hfb
      rw [hi]
      have ho8:w8.drew.ownsRow w1.heap.size 25 4 (.slice A' d.files.length c') d.files.length inner:=own_move HO9.out fun k hk=>hb8.block k (own_lt HO9.out k hk)
      have HINS:Hid (Calls Tryz.prog 128 #[.slice A' d.files.length c',.int .i64 i,.slice (some ⟨w8.heap.size,0,none⟩) 1 1] (w8.drew.alloc (.cells #[.string n,.int .u8 f.kind,.string f.data,.slice A3 f.files.length c3] 25)) _):=Lib.hid (insert_calls (.slice A' d.files.length c') d.files.length inner [.string n,.int .u8 f.kind,.string f.data,.slice A3 f.files.length c3] i w1.heap.size w8.drew ho8 (by omega) hil rfl (by intro u hu;simp only [List.mem_cons,List.not_mem_nil,or_false] at hu;rcases hu with rfl | rfl | rfl | rfl <;> rfl) (LT_one' _ _ _ _ HL9.out) (by omega))
      have hba:=below_alloc (Below.refl w8.drew.heap.size w8.drew) (.cells #[.string n,.int .u8 f.kind,.string f.data,.slice A3 f.files.length c3] 25)
      have y3a:=(hba.cell (p:=⟨g,o+3,none⟩) (by simp only;omega)).trans y38
      have HXBa:=Lib.hid ((hba.block w5.heap.size (by omega)).trans HXB8.out)
      clear hi hfb ho8 hba
      go_wp2_with fail
      refine start_ (n:=12) (S:=fun w'=>w'.cell? ⟨g,o+3,none⟩=some (.slice A' d.files.length c')∧w'.heap[w5.heap.size]? = some (.cells #[.string n,.int .u8 f.kind,.string f.data,.slice A3 f.files.length c3] 25 (0,0))) (ds:=[11]) (bp 12 0) (by kernel_rfl) rfl rfl ⟨y38,HXB8.out⟩ (fun hHeld => ?_)
      refine pA 0 70 (bp 12 1) ?_
      refine pA 1 71 (bp 12 3) ?_
      refine pA 2 72 (bp 12 7) ?_
      refine pA 3 73 (bp 12 15) ?_
      refine pA 5 75 (bp 12 47) ?_
      refine tA 4 74 (bp 12 63) hHeld ?_ (hy:=by
       rintro w' ⟨s0,s1⟩
       go_simp
       with_reducible rfl)
      refine tA 6 76 (bp 12 127) hHeld ?_ (hy:=by
       rintro w' ⟨s0,s1⟩
       have q0:=cell_of (j:=0) s1 rfl
       have q1:=cell_of (j:=1) s1 rfl
       have q2:=cell_of (j:=2) s1 rfl
       have q3:=cell_of (j:=3) s1 rfl
       go_simp
       with_reducible rfl)
      refine eA 7 77 (bp 12 255) (fun K hK => ?_)
      refine vA ?_
      refine hK.out _ _ ⟨y3a,HXBa.out⟩ (fun hHeld => ?_)
      refine nA 77 ?_
      refine eA 8 78 (bp 12 511) (fun K hK => ?_)
      refine gA Tryz.func128 #[.slice A' d.files.length c',.int .i64 i,.slice (some ⟨w8.heap.size,0,none⟩) 1 1] ?_
      refine HINS.out.mono ?_
      rintro e w9 ⟨v2,rfl,hown9,hon9,hor9⟩
      refine ⟨_,rfl,?_⟩
      have HOWN9:=Lib.hid hown9
      have HON9:=Lib.hid hon9
      have HOR9:=Lib.hid hor9
      have hgr:¬ ((Value.slice A' d.files.length c').ownBlock=some g):=fun e=>(HVB.out g e).2.1 rfl
      have hgx:¬ ((Value.slice A' d.files.length c').ownBlock=some w5.heap.size):=fun e=>by have:=(HBL2.out _ (HVB.out _ e).1).1;omega
      have hs89:=hon9.size
      have hs8d:w8.drew.heap.size=w8.heap.size:=rfl
      have HG9:=Lib.hid (hon9.block g (by omega) hgr)
      have HX9:=Lib.hid ((hon9.block w5.heap.size (by omega) hgx).trans HXB8.out)
      have y39:w9.cell? ⟨g,o+3,none⟩=some (.slice A' d.files.length c'):=(cell_same (HG9.out) (o+3)).trans y38
      have yf9:w9.frozen? ⟨g,o+3,none⟩=false:=unfr (HG9.out.trans HGC8.out) (o+3)
      obtain ⟨A2',c2',rfl⟩:=own_slice hown9
      clear hown9 hon9 hor9 hHeld
      refine hK.out _ _ ⟨y39,HX9.out⟩ (fun hHeld => ?_)
      refine nA 78 ?_
      refine pA 9 79 (bp 12 1023) ?_
      refine pA 10 80 (bp 12 2047) ?_
      refine last_ (i:=11) (N:=none) (bp 12 4095) rfl rfl (by kernel_rfl) (by decide) (fun K hK => ?_)
      refine sA ?_
      refine hK.out _ _ ?_
      refine done_ (by kernel_rfl) ?_
      have hO9:Only (fun k=>k=g∨(Value.slice A' d.files.length c').ownBlock=some k) w8 (w9.setCell ⟨g,o+3,none⟩ (.slice A2' (d.files.length+1) c2')) :=
       ((Only.refl (fun k=>k=g) w8).drew.trans HON9.out (fun k _ h=>.inl h) (fun k _ h=>.inr h)).trans (Only.setCell w9 ⟨g,o+3,none⟩ _) (fun k _ h=>h) (fun k _ h=>.inl h)
      obtain ⟨g2,hg2⟩:∃ g2,(Value.slice A2' (d.files.length+1) c2').ownBlock=some g2:=by
       rcases HOWN9.out.2 with ⟨_,h0⟩ | ⟨g',cap,cur,hvv,_⟩
       ·omega
       ·exact ⟨g',by rw [hvv];rfl⟩
      have hor2:(Value.slice A' d.files.length c').ownBlock=some g2∨W7.heap.size≤g2:=by
       rcases HOR9.out with h | ⟨N,h,hN⟩
       ·exact .inl (h.symm.trans hg2)
       ·rw [hg2] at h
        injection h with h
        exact .inr (by rw [h];omega)
      have hg2g:g2≠g:=fun e=>by
       rcases hor2 with h | h
       ·exact (HVB.out g2 h).2.1 e
       ·omega
      have hrow9:(w9.setCell ⟨g,o+3,none⟩ (.slice A2' (d.files.length+1) c2')).ownsRow w1.heap.size 25 4 (.slice A2' (d.files.length+1) c2') (d.files.length+1) (putCs inner [.string n,.int .u8 f.kind,.string f.data,.slice A3 f.files.length c3] i) :=
       own_move HOWN9.out fun k hk=>Below.heap_setCell _ _ _ _ (fun e=>hg2g (by rw [hg2] at hk;injection hk with hk;exact hk.trans e))
      have hgW:(w9.setCell ⟨g,o+3,none⟩ (.slice A2' (d.files.length+1) c2')).heap[g]? = (W7.setCell ⟨g,o+3,none⟩ (.slice A2' (d.files.length+1) c2')).heap[g]? := setCell_same ⟨g,o+3,none⟩ _ (HG9.out.trans (hb8.block g hgl))
      have hlow:∀ k,(k=g∨(Value.slice A' d.files.length c').ownBlock=some k)→w1.heap.size≤k:=by
       rintro k (e | e)
       ·rcases hgm with h | h
        ·omega
        ·have:=(hbW1 g h).2
         omega
       ·exact (hbW1 _ (HVB.out _ e).1).2
      have HZ9w:=Lib.hid ((hO9.block (w.heap.size+2) (by omega) (fun e=>by have:=hlow _ e;omega)).trans HZ8.out)
      have hb9:=hb8w.trans (hO9.below (B:=w.heap.size) (by omega) (fun k hk e=>by have:=hlow _ e;omega))
      have HTT:∃ v3 bl2,HeldC w2.heap.size w1.heap.size (putP t q {d with files:=insF d.files (nameF f n)}) v3 bl2 (w9.setCell ⟨g,o+3,none⟩ (.slice A2' (d.files.length+1) c2'))∧∀ k∈bl2,k∈bl∨k∈bz∨W7.heap.size≤k:=by
       obtain ⟨b1,b2,hbb,hLI⟩:=LT_ins i HL9.out HFN.out
       have hins:insF d.files (nameF f n)=d.files.take i++nameF f n :: d.files.drop i:=by
        unfold insF
        rw [show foundB d.files (nameF f n).name=false from HFB.out,if_neg (by decide),show lowB d.files (nameF f n).name=i from HI9.out]
       rw [hins]
       refine HT9.out _ _ _ _ b1 [] b2 bz g2 hLI hbb hzn (fun k hk=>⟨?_,fun e => ?_,?_⟩) (fun k hk h1 h2 => ?_) hgW ?_ hg2 hor2
       ·have:=(HBZ.out k hk).2
        omega
       ·have h4:=(HBZ.out k hk).2
        have h6:=(hbW1 k e).1
        omega
       ·have:=(HBZ.out k hk).1
        omega
       ·have hk7:k<W7.heap.size:=by
         rcases hk with rfl | h | h
         ·exact htbl
         ·have:=(hbW1 k h).1
          omega
         ·have:=(HBZ.out k h).1
          omega
        exact (hO9.block k (by omega) (fun e=>e.elim h1 h2)).trans (hb8.block k hk7)
       ·have hlen:(d.files.take i++nameF f n :: d.files.drop i).length=d.files.length+1:=by
         rw [List.length_append,List.length_cons,List.length_take,List.length_drop]
         omega
        rw [hlen]
        exact hrow9
      clear HINS y39 yf9 hrow9 hgW hO9 HOWN9 HON9 HOR9 HG9 HX9 hor2 hg2
      generalize w9.setCell ⟨g,o+3,none⟩ (.slice A2' (d.files.length+1) c2')=W9 at *
      obtain ⟨v3,bl2,hH9,hs9⟩:=HTT
      clear hs9
      have hub:(putP t q {d with files:=insF d.files (nameF f n)}).bulk≤4000000000:=by
       have h1:=bulk_putX (x:=nameF f n) HGO.out
       have h2:=bulk_name f n
       omega
      have HG4:=Lib.hid HG3.out
      generalize putP t q {d with files:=insF d.files (nameF f n)}=u at *
      obtain ⟨A9,c9,rfl,hat9⟩:=hH9.at
      have HH9:=Lib.hid hH9
      have HAT9:=Lib.hid hat9
      have r0:=hat9.c0
      have r1:=hat9.c1
      have r2:=hat9.c2
      have r3:=hat9.c3
      have HRT9:=Lib.hid (show Calls Tryz.prog 38 #[.agg (fc u A9 c9)] W9 _ from right_calls u A9 c9 W9 (by omega) hat9.ch hat9.le)
      clear hH9 hat9 HT9 HO9 HL9 HVB HBS HFI HCP HCF HGC
      go_wp2_with fail
      refine HRT9.out.mono ?_
      rintro e w10 ⟨rfl,hb10'⟩
      have hs10:=hb10'.size
      have hb10:=bstep hb9 hb9.size hb10'
      have HZ10:=Lib.hid ((hb10'.block _ (blk_lt HZ9w.out)).trans HZ9w.out)
      have HH10:=Lib.hid (HH9.out.below hb10')
      clear r0 r1 r2 r3
      cases hru:rightT u
      ·have HG:Hid (gr=(zeroF,30)):=Lib.hid (by rw [HG4.out,if_neg (by rw [hru];decide)])
       have HZ9:=Lib.hid (store4_box HZ10.out (.string ⟨#[]⟩) (.int .u8 0) (.string ⟨#[]⟩) (.slice none 0 0))
       have HB9:=Lib.hid (store4_below hb10 (g:=w.heap.size+2) (by omega) (.string ⟨#[]⟩) (.int .u8 0) (.string ⟨#[]⟩) (.slice none 0 0))
       obtain ⟨z0,z1,z2,z3⟩:=c4A HZ10.out
       have u0:=unfr HZ10.out 0
       have u1:=unfr HZ10.out 1
       have u2:=unfr HZ10.out 2
       have u3:=unfr HZ10.out 3
       go_wp2_with fail
       refine bodyPost_ret (results_ct rfl _ _ (w.heap.size+2) 25 zC (0,0) _ rfl HZ9.out Tryz.underlying25 rfl (by kernel_rfl)) rfl ?_
       rw [HG.out]
       exact ⟨none,0,rfl,Nat.le_refl _,fun _ _=>Kd.C_nil FileK _,HB9.out⟩
      ·have HG:Hid (gr=(u,0)):=Lib.hid (by rw [HG4.out,if_pos hru])
       obtain ⟨A0,c0,he0,hat0⟩:=HH10.out.at
       injection he0 with e1 _ e2
       subst e1
       subst e2
       have r0:=hat0.c0
       have r1:=hat0.c1
       have r2:=hat0.c2
       have r3:=hat0.c3
       have hle:=hat0.le
       clear hat0
       have HZ9:=Lib.hid (store4_box HZ10.out (.string u.name) (.int .u8 u.kind) (.string u.data) (.slice A9 u.files.length c9))
       have HB9:=Lib.hid (store4_below hb10 (g:=w.heap.size+2) (by omega) (.string u.name) (.int .u8 u.kind) (.string u.data) (.slice A9 u.files.length c9))
       obtain ⟨z0,z1,z2,z3⟩:=c4A HZ10.out
       have u0:=unfr HZ10.out 0
       have u1:=unfr HZ10.out 1
       have u2:=unfr HZ10.out 2
       have u3:=unfr HZ10.out 3
       go_wp2_with fail
       refine bodyPost_ret (results_ct rfl _ _ (w.heap.size+2) 25 (fc u A9 c9) (0,0) _ rfl HZ9.out Tryz.underlying25 rfl (by kernel_rfl)) rfl ?_
       rw [HG.out]
       have hsz9:((((w10.setCell ⟨w.heap.size+2,0,none⟩ (.string u.name)).setCell ⟨w.heap.size+2,1,none⟩ (.int .u8 u.kind)).setCell ⟨w.heap.size+2,2,none⟩ (.string u.data)).setCell ⟨w.heap.size+2,3,none⟩ (.slice A9 u.files.length c9)).heap.size=w10.heap.size:=by simp [World.setCell]
       have hall:∀ W':World,(∀ k,w.heap.size≤k→k<((((w10.setCell ⟨w.heap.size+2,0,none⟩ (.string u.name)).setCell ⟨w.heap.size+2,1,none⟩ (.int .u8 u.kind)).setCell ⟨w.heap.size+2,2,none⟩ (.string u.data)).setCell ⟨w.heap.size+2,3,none⟩ (.slice A9 u.files.length c9)).heap.size→W'.heap[k]? = ((((w10.setCell ⟨w.heap.size+2,0,none⟩ (.string u.name)).setCell ⟨w.heap.size+2,1,none⟩ (.int .u8 u.kind)).setCell ⟨w.heap.size+2,2,none⟩ (.string u.data)).setCell ⟨w.heap.size+2,3,none⟩ (.slice A9 u.files.length c9)).heap[k]?)→FileK.C W' A9 u.files.length u.files:=by
        intro W' hW
        have hFT:=FT_move _ _ _ W' _ _ HH10.out.ft fun k hk=>by
         have hk2:=FT_lt _ _ _ _ _ HH10.out.ft k hk
         exact (hW k (by omega) (by omega)).trans (store4_other w10 (by omega) _ _ _ _)
        obtain ⟨A0,c0,he0,hle0,hC0⟩:=FT_reads _ _ _ _ _ hFT
        injection he0 with e1 _ e2
        subst e1
        subst e2
        exact hC0
       exact ⟨A9,c9,rfl,hle,hall,HB9.out⟩
     ·obtain ⟨i,hi⟩:∃ i,lowB d.files n=i:=⟨_,rfl⟩
      have hil:i<d.files.length:=by
       unfold foundB at hfb
       rw [hi] at hfb
       rcases Nat.lt_or_ge i d.files.length with h | h
       ·exact h
       ·rw [List.getElem?_eq_none h] at hfb
        cases hfb
      have HI9:=Lib.hid hi
      have HFB:=Lib.hid hfb
      rw [hi]
      have ho8:w8.drew.ownsRow w1.heap.size 25 4 (.slice A' d.files.length c') d.files.length inner:=own_move HO9.out fun k hk=>hb8.block k (own_lt HO9.out k hk)
      obtain ⟨gr',rfl⟩:∃ gr',A'=some ⟨gr',0,none⟩:=by
       rcases ho8.2 with ⟨_,h0⟩ | ⟨gr',cap',cur,he,_⟩
       ·omega
       ·injection he with e1 _ _
        exact ⟨gr',e1⟩
      have hin:inner.length=d.files.length * 4:=ho8.1
      have hgr8:∃ cs,w8.drew.heap[gr']? = some (.cells cs 25 (0,0)):=by
       rcases ho8.2 with ⟨_,h0⟩ | ⟨g',cap',cur,he,_,hh,_⟩
       ·omega
       ·injection he with e1 _ _
        injection e1 with e1
        injection e1 with e1 _ _
        subst e1
        exact ⟨_,hh⟩
      obtain ⟨rcs,hgr8⟩:=hgr8
      have hgrg:gr'≠g:=fun e=>(HVB.out gr' rfl).2.1 e
      have hce:∀ j u,inner[j]? = some u→w8.drew.cell? ⟨gr',j,none⟩=some u:=fun j u hj=>by
       have h:=ho8.cells (g:=gr') rfl j u hj
       rwa [add_at4] at h
      have e0:=hce (i * 4) _ (List.getElem?_eq_getElem (by omega))
      have e0':w8.cell? ⟨gr',i * 4,none⟩=_:=e0
      have e1:w8.cell? ⟨gr',i * 4+1,none⟩=_:=hce (i * 4+1) _ (List.getElem?_eq_getElem (by omega))
      have e2:w8.cell? ⟨gr',i * 4+2,none⟩=_:=hce (i * 4+2) _ (List.getElem?_eq_getElem (by omega))
      have e3:w8.cell? ⟨gr',i * 4+3,none⟩=_:=hce (i * 4+3) _ (List.getElem?_eq_getElem (by omega))
      generalize inner[i * 4]=u0 at e0 e0'
      generalize inner[i * 4+1]=u1 at e1
      generalize inner[i * 4+2]=u2 at e2
      generalize inner[i * 4+3]=u3 at e3
      have v0:=unfr hgr8 (i * 4)
      have v0':w8.frozen? ⟨gr',i * 4,none⟩=false:=v0
      have v1:w8.frozen? ⟨gr',i * 4+1,none⟩=false:=unfr hgr8 (i * 4+1)
      have v2:w8.frozen? ⟨gr',i * 4+2,none⟩=false:=unfr hgr8 (i * 4+2)
      have v3:w8.frozen? ⟨gr',i * 4+3,none⟩=false:=unfr hgr8 (i * 4+3)
      have gi:(i:Int)<(d.files.length:Int):=by omega
      have HO8:=Lib.hid ho8
      clear hi hfb ho8 hce
      go_wp2_with fail
      refine start_ (n:=8) (S:=fun w'=>w'.cell? ⟨g,o+3,none⟩=some (.slice (some ⟨gr',0,none⟩) d.files.length c')∧w'.heap[w5.heap.size]? = some (.cells #[.string n,.int .u8 f.kind,.string f.data,.slice A3 f.files.length c3] 25 (0,0))) (ds:=[7]) (bp 8 0) (by kernel_rfl) rfl rfl ⟨y38,HXB8.out⟩ (fun hHeld => ?_)
      refine pA 0 63 (bp 8 1) ?_
      refine pA 1 64 (bp 8 3) ?_
      refine pA 2 65 (bp 8 7) ?_
      refine pA 4 67 (bp 8 23) ?_
      refine tA 3 66 (bp 8 31) hHeld ?_ (hy:=by
       rintro w' ⟨s0,s1⟩
       go_simp
       with_reducible rfl)
      refine tA 5 68 (bp 8 63) hHeld ?_ (hy:=by
       rintro w' ⟨s0,s1⟩
       have q0:=cell_of (j:=0) s1 rfl
       have q1:=cell_of (j:=1) s1 rfl
       have q2:=cell_of (j:=2) s1 rfl
       have q3:=cell_of (j:=3) s1 rfl
       go_simp
       with_reducible rfl)
      refine pA 6 69 (bp 8 127) ?_
      refine last_ (i:=7) (N:=none) (bp 8 255) rfl rfl (by kernel_rfl) (by decide) (fun K hK => ?_)
      refine sA ?_
      refine hK.out _ _ ?_
      refine done_ (by kernel_rfl) ?_
      have s1:=own_set (w':=w8.setCell ⟨gr',i * 4,none⟩ (.string n)) HO8.out rfl (j:=i * 4) (by omega) rfl
      have s2:=own_set (w':=(w8.setCell ⟨gr',i * 4,none⟩ (.string n)).setCell ⟨gr',i * 4+1,none⟩ (.int .u8 f.kind)) s1 rfl (j:=i * 4+1) (by rw [List.length_set];omega) rfl
      have s3:=own_set (w':=((w8.setCell ⟨gr',i * 4,none⟩ (.string n)).setCell ⟨gr',i * 4+1,none⟩ (.int .u8 f.kind)).setCell ⟨gr',i * 4+2,none⟩ (.string f.data)) s2 rfl (j:=i * 4+2) (by rw [List.length_set,List.length_set];omega) rfl
      have s4:=own_set (w':=(((w8.setCell ⟨gr',i * 4,none⟩ (.string n)).setCell ⟨gr',i * 4+1,none⟩ (.int .u8 f.kind)).setCell ⟨gr',i * 4+2,none⟩ (.string f.data)).setCell ⟨gr',i * 4+3,none⟩ (.slice A3 f.files.length c3)) s3 rfl (j:=i * 4+3) (by rw [List.length_set,List.length_set,List.length_set];omega) rfl
      rw [set4_mid i inner _ _ _ _ (by omega)] at s4
      have s4:(((((w8.setCell ⟨gr',i * 4,none⟩ (.string n)).setCell ⟨gr',i * 4+1,none⟩ (.int .u8 f.kind)).setCell ⟨gr',i * 4+2,none⟩ (.string f.data)).setCell ⟨gr',i * 4+3,none⟩ (.slice A3 f.files.length c3)).drew).ownsRow _ _ _ _ _ _:=s4
      have hO9:∀ k,k≠gr'→(((((w8.setCell ⟨gr',i * 4,none⟩ (.string n)).setCell ⟨gr',i * 4+1,none⟩ (.int .u8 f.kind)).setCell ⟨gr',i * 4+2,none⟩ (.string f.data)).setCell ⟨gr',i * 4+3,none⟩ (.slice A3 f.files.length c3)).drew).heap[k]? = w8.heap[k]? := fun k hk =>
       (Below.heap_setCell _ _ _ _ hk).trans ((Below.heap_setCell _ _ _ _ hk).trans ((Below.heap_setCell _ _ _ _ hk).trans (Below.heap_setCell _ _ _ _ hk)))
      have hgrB:w1.heap.size≤gr':=(hbW1 gr' (HVB.out gr' rfl).1).2
      have hb9:=(((hb8w.setCell (p:=⟨gr',i * 4,none⟩) (by simp only;omega) (.string n)).setCell (p:=⟨gr',i * 4+1,none⟩) (by simp only;omega) (.int .u8 f.kind)).setCell (p:=⟨gr',i * 4+2,none⟩) (by simp only;omega) (.string f.data)).setCell (p:=⟨gr',i * 4+3,none⟩) (by simp only;omega) (.slice A3 f.files.length c3)
      have hb9:=bdrew hb9
      have HZ9w:=Lib.hid ((hO9 (w.heap.size+2) (by omega)).trans HZ8.out)
      have HTT:∃ v3 bl2,HeldC w2.heap.size w1.heap.size (putP t q {d with files:=insF d.files (nameF f n)}) v3 bl2 (((((w8.setCell ⟨gr',i * 4,none⟩ (.string n)).setCell ⟨gr',i * 4+1,none⟩ (.int .u8 f.kind)).setCell ⟨gr',i * 4+2,none⟩ (.string f.data)).setCell ⟨gr',i * 4+3,none⟩ (.slice A3 f.files.length c3)).drew)∧∀ k∈bl2,k∈bl∨k∈bz∨W7.heap.size≤k:=by
       obtain ⟨b1,b2,b3,hbb,hLI⟩:=LT_set i HL9.out HFN.out
       have hins:insF d.files (nameF f n)=d.files.take i++nameF f n :: d.files.drop (i+1):=by
        unfold insF
        rw [show foundB d.files (nameF f n).name=true from HFB.out,if_pos rfl,show lowB d.files (nameF f n).name=i from HI9.out]
       rw [hins]
       refine HT9.out _ (.slice (some ⟨gr',0,none⟩) d.files.length c') _ _ b1 b2 b3 bz gr' hLI hbb hzn (fun k hk=>⟨?_,fun e => ?_,?_⟩) (fun k hk h1 h2 => ?_) ?_ ?_ rfl (.inl rfl)
       ·have:=(HBZ.out k hk).2
        omega
       ·have h4:=(HBZ.out k hk).2
        have h6:=(hbW1 k e).1
        omega
       ·have:=(HBZ.out k hk).1
        omega
       ·have hk7:k<W7.heap.size:=by
         rcases hk with rfl | h | h
         ·exact htbl
         ·have:=(hbW1 k h).1
          omega
         ·have:=(HBZ.out k h).1
          omega
        exact (hO9 k (fun e=>h2 (by rw [e];rfl))).trans (hb8.block k hk7)
       ·rw [setCell_id Y3.out]
        exact (hO9 g (Ne.symm hgrg)).trans (hb8.block g hgl)
       ·have hlen:(d.files.take i++nameF f n :: d.files.drop (i+1)).length=d.files.length:=by
         rw [List.length_append,List.length_cons,List.length_take,List.length_drop]
         omega
        rw [hlen]
        exact s4
      clear s1 s2 s3 s4 hO9 e0 e1 e2 e3 v0 v1 v2 v3 e0' v0'
      generalize (((((w8.setCell ⟨gr',i * 4,none⟩ (.string n)).setCell ⟨gr',i * 4+1,none⟩ (.int .u8 f.kind)).setCell ⟨gr',i * 4+2,none⟩ (.string f.data)).setCell ⟨gr',i * 4+3,none⟩ (.slice A3 f.files.length c3)).drew)=W9 at *
      obtain ⟨v3,bl2,hH9,hs9⟩:=HTT
      clear hs9
      have hub:(putP t q {d with files:=insF d.files (nameF f n)}).bulk≤4000000000:=by
       have h1:=bulk_putX (x:=nameF f n) HGO.out
       have h2:=bulk_name f n
       omega
      have HG4:=Lib.hid HG3.out
      generalize putP t q {d with files:=insF d.files (nameF f n)}=u at *
      obtain ⟨A9,c9,rfl,hat9⟩:=hH9.at
      have HH9:=Lib.hid hH9
      have HAT9:=Lib.hid hat9
      have r0:=hat9.c0
      have r1:=hat9.c1
      have r2:=hat9.c2
      have r3:=hat9.c3
      have HRT9:=Lib.hid (show Calls Tryz.prog 38 #[.agg (fc u A9 c9)] W9 _ from right_calls u A9 c9 W9 (by omega) hat9.ch hat9.le)
      clear hH9 hat9 HT9 HO9 HL9 HVB HBS HFI HCP HCF HGC
      go_wp2_with fail
      refine HRT9.out.mono ?_
      rintro e w10 ⟨rfl,hb10'⟩
      have hs10:=hb10'.size
      have hb10:=bstep hb9 hb9.size hb10'
      have HZ10:=Lib.hid ((hb10'.block _ (blk_lt HZ9w.out)).trans HZ9w.out)
      have HH10:=Lib.hid (HH9.out.below hb10')
      clear r0 r1 r2 r3
      cases hru:rightT u
      ·have HG:Hid (gr=(zeroF,30)):=Lib.hid (by rw [HG4.out,if_neg (by rw [hru];decide)])
       have HZ9:=Lib.hid (store4_box HZ10.out (.string ⟨#[]⟩) (.int .u8 0) (.string ⟨#[]⟩) (.slice none 0 0))
       have HB9:=Lib.hid (store4_below hb10 (g:=w.heap.size+2) (by omega) (.string ⟨#[]⟩) (.int .u8 0) (.string ⟨#[]⟩) (.slice none 0 0))
       obtain ⟨z0,z1,z2,z3⟩:=c4A HZ10.out
       have u0:=unfr HZ10.out 0
       have u1:=unfr HZ10.out 1
       have u2:=unfr HZ10.out 2
       have u3:=unfr HZ10.out 3
       go_wp2_with fail
       refine bodyPost_ret (results_ct rfl _ _ (w.heap.size+2) 25 zC (0,0) _ rfl HZ9.out Tryz.underlying25 rfl (by kernel_rfl)) rfl ?_
       rw [HG.out]
       exact ⟨none,0,rfl,Nat.le_refl _,fun _ _=>Kd.C_nil FileK _,HB9.out⟩
      ·have HG:Hid (gr=(u,0)):=Lib.hid (by rw [HG4.out,if_pos hru])
       obtain ⟨A0,c0,he0,hat0⟩:=HH10.out.at
       injection he0 with e1 _ e2
       subst e1
       subst e2
       have r0:=hat0.c0
       have r1:=hat0.c1
       have r2:=hat0.c2
       have r3:=hat0.c3
       have hle:=hat0.le
       clear hat0
       have HZ9:=Lib.hid (store4_box HZ10.out (.string u.name) (.int .u8 u.kind) (.string u.data) (.slice A9 u.files.length c9))
       have HB9:=Lib.hid (store4_below hb10 (g:=w.heap.size+2) (by omega) (.string u.name) (.int .u8 u.kind) (.string u.data) (.slice A9 u.files.length c9))
       obtain ⟨z0,z1,z2,z3⟩:=c4A HZ10.out
       have u0:=unfr HZ10.out 0
       have u1:=unfr HZ10.out 1
       have u2:=unfr HZ10.out 2
       have u3:=unfr HZ10.out 3
       go_wp2_with fail
       refine bodyPost_ret (results_ct rfl _ _ (w.heap.size+2) 25 (fc u A9 c9) (0,0) _ rfl HZ9.out Tryz.underlying25 rfl (by kernel_rfl)) rfl ?_
       rw [HG.out]
       have hsz9:((((w10.setCell ⟨w.heap.size+2,0,none⟩ (.string u.name)).setCell ⟨w.heap.size+2,1,none⟩ (.int .u8 u.kind)).setCell ⟨w.heap.size+2,2,none⟩ (.string u.data)).setCell ⟨w.heap.size+2,3,none⟩ (.slice A9 u.files.length c9)).heap.size=w10.heap.size:=by simp [World.setCell]
       have hall:∀ W':World,(∀ k,w.heap.size≤k→k<((((w10.setCell ⟨w.heap.size+2,0,none⟩ (.string u.name)).setCell ⟨w.heap.size+2,1,none⟩ (.int .u8 u.kind)).setCell ⟨w.heap.size+2,2,none⟩ (.string u.data)).setCell ⟨w.heap.size+2,3,none⟩ (.slice A9 u.files.length c9)).heap.size→W'.heap[k]? = ((((w10.setCell ⟨w.heap.size+2,0,none⟩ (.string u.name)).setCell ⟨w.heap.size+2,1,none⟩ (.int .u8 u.kind)).setCell ⟨w.heap.size+2,2,none⟩ (.string u.data)).setCell ⟨w.heap.size+2,3,none⟩ (.slice A9 u.files.length c9)).heap[k]?)→FileK.C W' A9 u.files.length u.files:=by
        intro W' hW
        have hFT:=FT_move _ _ _ W' _ _ HH10.out.ft fun k hk=>by
         have hk2:=FT_lt _ _ _ _ _ HH10.out.ft k hk
         exact (hW k (by omega) (by omega)).trans (store4_other w10 (by omega) _ _ _ _)
        obtain ⟨A0,c0,he0,hle0,hC0⟩:=FT_reads _ _ _ _ _ hFT
        injection he0 with e1 _ e2
        subst e1
        subst e2
        exact hC0
       exact ⟨A9,c9,rfl,hle,hall,HB9.out⟩
end Go.Proofs.YthlcjjhfkldmhaaGreatDoor.G
end
section
section
namespace Go.Proofs.YthlcjjhfkldmhaaGreatDoor.G
open Go.RowKit Go.Lib Go.Proofs.YthlcjjhfkldmhaaGreatDoorW.PrintWords Go.Proofs.YthlcjjhfkldmhaaGreatDoorW.PrintLast
set_option linter.unusedVariables false
set_option linter.unusedSimpArgs false
theorem cell_eqv {W W':World} {g:Nat} (h:W.heap[g]? = W'.heap[g]?) (j:Nat):W.cell? ⟨g,j,none⟩=W'.cell? ⟨g,j,none⟩:=by simp [World.cell?,h]
theorem Reach_mv {w w':World} (hb:Below w.heap.size w w'):∀ {p:List ByteArray} {ad:Addr} {f:File} {ad':Addr} {y:File},Reach w ad f p ad' y→Reach w' ad f p ad' y
 | [],_,_,_,_,h=>h
 | n :: p,ad,f,ad',y,⟨b,c,x,h1,h2,h3⟩=>⟨b,c,x,(hb.cell (World.block_lt_of_cell? w _ h1)).trans h1,h2,Reach_mv hb h3⟩
theorem go_split {n:ByteArray} {y:File} {k:Int}:∀ {q:List ByteArray} {f:File},goP f (q++[n])=(k,some y)→∃ d,goP f q=(0,some d)∧d.kind=1∧d.files[lowB d.files n]? = some y∧y.name=n
 | [],f,h=>by
  obtain ⟨x,hk,hx,hn,hg⟩:=goP_full h
  rw [goP] at hg
  injection hg with _ hg
  injection hg with hg
  subst hg
  exact ⟨f,rfl,hk,hx,hn⟩
 | m :: q,f,h=>by
  obtain ⟨x,hk,hx,hn,hg⟩:=goP_full h
  obtain ⟨d,h1,h2⟩:=go_split hg
  exact ⟨d,by rw [goP_mk hk hx hn,h1],h2⟩
set_option maxHeartbeats 8000000 in
set_option maxRecDepth 100000 in
theorem drop_calls (t:File) (A:Option Addr) (c:Nat) (Ap:Option Addr) (cp:Nat) (q:List ByteArray) (n:ByteArray) (w:World) (hr:FileK.C w A t.files.length t.files) (hc:t.files.length≤c) (hbt:t.bulk≤1000000000) (hp:Kd.C Kd.string w Ap (q++[n]).length (q++[n])) (hcp:q.length+1≤cp) (hpl:q.length≤1000000000) :
  Calls Tryz.prog 114 #[fileV t A c,.slice Ap (q.length+1) cp] w fun e w'=>∃ A' c',e=.returned (.tuple #[.agg #[.string (dropR t q n).1.name,.int .u8 (dropR t q n).1.kind,.string (dropR t q n).1.data,.slice A' (dropR t q n).1.files.length c'],.int .i64 (dropR t q n).2])∧(dropR t q n).1.files.length≤c'∧(∀ W':World,(∀ k,w.heap.size≤k→k<w'.heap.size→W'.heap[k]? = w'.heap[k]?)→FileK.C W' A' (dropR t q n).1.files.length (dropR t q n).1.files)∧Below w.heap.size w w':=by
 have h2:=two_boxes w (fc t A c) zC 25 25
 have hb0:=((Below.refl w.heap.size w).alloc (Nat.le_refl _) (.cells (fc t A c) 25)).alloc (by simp) (.cells zC 25)
 have HP:=Lib.hid hp
 have HGR:Hid (dropR t q n=if rightT t=true then (match goP t (q++[n]) with
   | (_,some _)=>(match goP t q with
    | (_,some d)=>(putP t q {d with files:=delF d.files n},0)
    | (k,none)=>(zeroF,k))
   | (k,none)=>(zeroF,k)) else (zeroF,30)):=Lib.hid rfl
 generalize dropR t q n=gr at *
 have HRT:=Lib.hid (fun W (h:Below w.heap.size w W)=>(show Calls Tryz.prog 38 #[.agg (fc t A c)] W _ from right_calls t A c W (by omega) (Kd.C_below hr h) hc))
 have HCP:=Lib.hid (fun W (h:Below w.heap.size w W)=>(show Calls Tryz.prog 21 #[.agg (fc t A c)] W _ from copy_apart t.bulk t A c W (Nat.le_refl _) (by omega) (Kd.C_below hr h) hc))
 have HQ:=Lib.hid (show Kd.C Kd.string w Ap q.length q from by
  have h1:=Kd.C_take hp (m:=q.length) (by simp)
  rwa [List.take_left' rfl] at h1)
 have hqn:(q++[n]).length=q.length+1:=by simp
 have HGC:=Lib.hid (fun W ad A' c' (h:Below w.heap.size w W) h1 h2=>get_calls t ad A' c' Ap cp q W h1 (by omega) h2 (Kd.C_below HQ.out h) (by omega) (by omega))
 have HGN:=Lib.hid (fun W ad A' c' (h:Below w.heap.size w W) h1 h2=>(show Calls Tryz.prog 125 #[.pointer (some ad),.slice Ap (q.length+1) cp] W _ from by rw [← hqn];exact get_calls t ad A' c' Ap cp (q++[n]) W h1 (by omega) h2 (Kd.C_below HP.out h) (by omega) (by omega)))
 have H1:=Lib.hid h2.1
 have H3:=Lib.hid h2.2
 obtain ⟨t0,t1,t2,t3⟩:=c4A h2.1
 have hk1:((q.length:Int)+1 - 1)=(q.length:Int):=by omega
 clear hp hr h2 hqn
 go_enter Tryz.func114,Tryz.ntmps114
 unfold fileV
 go_wp2_with fail
 generalize (w.alloc (.cells (fc t A c) 25)).alloc (.cells zC 25)=W0 at *
 have hz0:=blk_lt H3.out
 refine (HRT.out _ hb0).mono ?_
 rintro e w1 ⟨rfl,hb1'⟩
 have hs1:=hb1'.size
 have hb1:=bstep hb0 hb0.size hb1'
 have H11:=Lib.hid ((hb1'.block _ (blk_lt H1.out)).trans H1.out)
 have HZ1:=Lib.hid ((hb1'.block _ (blk_lt H3.out)).trans H3.out)
 clear t0 t1 t2 t3
 cases hrt:rightT t
 ·have HG:Hid (gr=(zeroF,30)):=Lib.hid (by rw [HGR.out,if_neg (by rw [hrt];decide)])
  have HZF:=Lib.hid (store4_box HZ1.out (.string ⟨#[]⟩) (.int .u8 0) (.string ⟨#[]⟩) (.slice none 0 0))
  have HB9:=Lib.hid (store4_below hb1 (g:=w.heap.size+1) (by omega) (.string ⟨#[]⟩) (.int .u8 0) (.string ⟨#[]⟩) (.slice none 0 0))
  obtain ⟨z0,z1,z2,z3⟩:=c4A HZ1.out
  have u0:=unfr HZ1.out 0
  have u1:=unfr HZ1.out 1
  have u2:=unfr HZ1.out 2
  have u3:=unfr HZ1.out 3
  go_wp2_with fail
  refine bodyPost_ret (results_ct rfl _ _ (w.heap.size+1) 25 zC (0,0) _ rfl HZF.out Tryz.underlying25 rfl (by kernel_rfl)) rfl ?_
  rw [HG.out]
  exact ⟨none,0,rfl,Nat.le_refl _,fun _ _=>Kd.C_nil FileK _,HB9.out⟩
 ·have HG1:=HGR.out
  rw [if_pos hrt] at HG1
  have HG2:=Lib.hid HG1
  have HS:=Lib.hid (right_sort hrt)
  clear HG1
  obtain ⟨t0,t1,t2,t3⟩:=c4A H11.out
  go_wp2_with fail
  refine (HCP.out _ hb1).mono ?_
  rintro e w2 ⟨v,bl,rfl,hft,hnd,hb2'⟩
  have hs2:=hb2'.size
  have hb2:=bstep hb1 hb1.size hb2'
  have HZ2:=Lib.hid ((hb2'.block _ (blk_lt HZ1.out)).trans HZ1.out)
  have hz1:=blk_lt HZ1.out
  clear t0 t1 t2 t3
  obtain ⟨A1,c1,rfl,hc1,hC1⟩:=FT_reads _ _ _ _ _ hft
  have hba:Below w2.heap.size w2 (w2.alloc (.cells (fc t A1 c1) 25)):=below_alloc (Below.refl _ _) _
  have HH3:Hid (HeldC w2.heap.size w1.heap.size t (.slice A1 t.files.length c1) bl (w2.alloc (.cells (fc t A1 c1) 25))):=Lib.hid ⟨blk_new w2 _,FT_below hft hba,hnd,fun k hk e=>by have:=(FT_lt _ _ _ _ _ hft k hk).1;omega⟩
  have hb3:=bstep hb2 hb2.size hba
  have HZ3:=Lib.hid ((hba.block _ (blk_lt HZ2.out)).trans HZ2.out)
  have HBL2:=Lib.hid (FT_lt _ _ _ _ _ hft)
  clear hft hnd hC1 hba
  go_wp2_with fail
  generalize w2.alloc (.cells (fc t A1 c1) 25)=W3 at *
  have hz3:=blk_lt HH3.out.box
  obtain ⟨A2,c2,he2,hat2⟩:=HH3.out.at
  injection he2 with e1 _ e2
  subst e1
  subst e2
  refine (HGN.out W3 _ _ _ hb3 hat2 HS.out).mono ?_
  clear hat2
  rintro e w4 ⟨hb4',⟨ad0,y,A0,c0,hgo,rfl,_,_,_,_⟩ | ⟨k,hk0,hgo,rfl⟩⟩
  rotate_left
  ·have HG:Hid (gr=(zeroF,k)):=Lib.hid (by rw [HG2.out,hgo])
   have k1:(k != 0)=true:=by rw [bne_iff_ne];exact hk0
   have hs4:=hb4'.size
   have hb4:=bstep hb3 hb3.size hb4'
   have HZ4:=Lib.hid ((hb4'.block _ (blk_lt HZ3.out)).trans HZ3.out)
   clear hgo
   have HZF:=Lib.hid (store4_box HZ4.out (.string ⟨#[]⟩) (.int .u8 0) (.string ⟨#[]⟩) (.slice none 0 0))
   have HB9:=Lib.hid (store4_below hb4 (g:=w.heap.size+1) (by omega) (.string ⟨#[]⟩) (.int .u8 0) (.string ⟨#[]⟩) (.slice none 0 0))
   obtain ⟨z0,z1,z2,z3⟩:=c4A HZ4.out
   have u0:=unfr HZ4.out 0
   have u1:=unfr HZ4.out 1
   have u2:=unfr HZ4.out 2
   have u3:=unfr HZ4.out 3
   go_wp2_with fail
   refine bodyPost_ret (results_ct rfl _ _ (w.heap.size+1) 25 zC (0,0) _ rfl HZF.out Tryz.underlying25 rfl (by kernel_rfl)) rfl ?_
   rw [HG.out]
   exact ⟨none,0,rfl,Nat.le_refl _,fun _ _=>Kd.C_nil FileK _,HB9.out⟩
  ·have hg2:=HG2.out
   rw [hgo] at hg2
   simp only at hg2
   obtain ⟨d0,hgq,hdk,hdx,hyn⟩:=go_split hgo
   rw [hgq] at hg2
   simp only at hg2
   have HG4:=Lib.hid hg2
   have hs4:=hb4'.size
   have hb4:=bstep hb3 hb3.size hb4'
   have HZ4:=Lib.hid ((hb4'.block _ (blk_lt HZ3.out)).trans HZ3.out)
   have HH4:=Lib.hid (HH3.out.below hb4')
   have HGQ:=Lib.hid hgq
   have HDX:=Lib.hid hdx
   have HYN:=Lib.hid hyn
   clear hgo hg2 hgq hdx hyn hdk
   go_wp2_with fail
   obtain ⟨A2',c2',he2,hat2⟩:=HH4.out.at
   injection he2 with e1 _ e2
   subst e1
   subst e2
   refine (HGC.out w4 _ _ _ hb4 hat2 HS.out).mono ?_
   clear hat2
   rintro e w7 ⟨hb7',⟨ad',d,A',c',hgo,rfl,hat,hre,hdb,hds⟩ | ⟨k,hk0,hgo,rfl⟩⟩
   rotate_left
   ·have h0:=HGQ.out
    rw [hgo] at h0
    injection h0 with _ h0
    cases h0
   ·obtain rfl:d0=d:=by
     have h0:=HGQ.out
     rw [hgo] at h0
     injection h0 with _ h0
     injection h0 with h0
     exact h0.symm
    have hs7:=hb7'.size
    have hb7:=bstep hb4 hb4.size hb7'
    have HZ7:=Lib.hid ((hb7'.block _ (blk_lt HZ4.out)).trans HZ4.out)
    have HH7:=Lib.hid (HH4.out.below hb7')
    have y3:=(hb7'.cell (World.block_lt_of_cell? _ _ hat.c3)).trans hat.c3
    have HRE7:=Lib.hid (Reach_mv hb7' hre)
    have HCH:=Lib.hid (Kd.C_below hat.ch hb7')
    have hle:=hat.le
    clear hat hre hgo
    obtain ⟨g,o,v',inner,bs,rfl,hc',⟨gcs,hgc⟩,hgm,ho,hL,hN,hbs,hvb,hT⟩:=turnC HH7.out HRE7.out
    obtain rfl:v'=.slice A' d0.files.length c':=by
     rw [y3] at hc'
     injection hc' with hc'
     exact hc'.symm
    have y3d:w7.drew.cell? ⟨g,o+3,none⟩=some (.slice A' d0.files.length c'):=y3
    obtain ⟨pad,rfl,hx⟩:=Kd.at_string HP.out (q.length:Int) (by omega) (by simp;omega)
    rw [Int.toNat_natCast] at hx
    have he:rdOf ByteArray.empty (q++[n]) (q.length:Int)=n:=by simp [rdOf]
    rw [he] at hx
    clear he
    have x7:=(hb7.cell (World.block_lt_of_cell? w _ hx)).trans hx
    have x7d:w7.drew.cell? (pad.add q.length)=some (.string n):=x7
    have hss:=hds
    rw [SortF_eq] at hss
    have hdl:=bulkL_len d0.files
    have hde:=bulk_eq d0
    have HFI:=Lib.hid (fun W (h:Below w7.heap.size w7 W)=>find_calls A' c' d0.files n W (Kd.C_below HCH.out h) hle (by omega) hss.1)
    have HT9:=Lib.hid hT
    have HO9:=Lib.hid ho
    have HL9:=Lib.hid hL
    have HVB:=Lib.hid hvb
    have hdl2:d0.files.length≤1000000000:=by omega
    have wq:IntKind.i64.wrap (q.length:Int)=(q.length:Int):=by rw [IntKind.wrap_i64];omega
    have gq:(q.length:Int)<(q.length:Int)+1:=by omega
    have gq0:(0:Int)≤(q.length:Int):=by omega
    clear hT ho hL hvb hbs hss hdl hde hc' hx
    go_wp2_with fail
    go_region_with (go_at_call 126;refine (HFI.out _ (bdrew (Below.refl _ _))).mono ?_;rintro e w8 ⟨rfl,hb8'⟩)
    all_goals
     have hb8:Below w7.heap.size w7 w8:=(bdrew (Below.refl w7.heap.size w7)).trans hb8'
     have hs8:=hb8.size
     have hgl:g<w7.heap.size:=blk_lt hgc
     have hz7:=blk_lt HZ7.out
     have HZ8:=Lib.hid ((hb8.block _ hz7).trans HZ7.out)
     have HGC8:=Lib.hid ((hb8.block _ hgl).trans hgc)
     have y38:w8.cell? ⟨g,o+3,none⟩=some (.slice A' d0.files.length c'):=(hb8.cell (p:=⟨g,o+3,none⟩) hgl).trans y3
     have hb8w:=bstep hb7 hb7.size hb8
     have htbl:=blk_lt HH7.out.box
     have hbW1:∀ k∈bl,k<w2.heap.size∧w1.heap.size≤k:=HBL2.out
     have Y3:=Lib.hid y3
     clear y3 y3d hb8' x7 x7d
     obtain ⟨i,hi⟩:∃ i,lowB d0.files n=i:=⟨_,rfl⟩
     have hil:i<d0.files.length:=by
      have h0:=HDX.out
      rw [hi] at h0
      exact (List.getElem?_eq_some_iff.1 h0).1
     have HI9:=Lib.hid hi
     rw [hi]
     have ho8:w8.ownsRow w1.heap.size 25 4 (.slice A' d0.files.length c') d0.files.length inner:=own_move HO9.out fun k hk=>hb8.block k (own_lt HO9.out k hk)
     obtain ⟨gr',rfl⟩:∃ gr',A'=some ⟨gr',0,none⟩:=by
      rcases ho8.2 with ⟨_,h0⟩ | ⟨gr',cap',cur,he,_⟩
      ·omega
      ·injection he with e1 _ _
       exact ⟨gr',e1⟩
     have hgrg:gr'≠g:=fun e=>(HVB.out gr' rfl).2.1 e
     have HDEL:=Lib.hid (delete_calls gr' d0.files.length c' inner i w1.heap.size w8 ho8 hil (LT_one' _ _ _ _ HL9.out) (by omega))
     have w1i:IntKind.i64.wrap ((i:Int)+1)=(i:Int)+1:=by rw [IntKind.wrap_i64];omega
     clear hi ho8
     go_wp2_with fail
     refine HDEL.out.mono ?_
     rintro e w9 ⟨rfl,hown9,hon9⟩
     have HOWN9:=Lib.hid hown9
     have HG9:=Lib.hid (hon9.block g (by omega) (Ne.symm hgrg))
     have y39:w9.cell? ⟨g,o+3,none⟩=some (.slice (some ⟨gr',0,none⟩) d0.files.length c'):=(cell_eqv HG9.out (o+3)).trans y38
     have yf9:w9.frozen? ⟨g,o+3,none⟩=false:=unfr (HG9.out.trans HGC8.out) (o+3)
     have hO9:Only (fun k=>k=g∨k=gr') w8 (w9.setCell ⟨g,o+3,none⟩ (.slice (some ⟨gr',0,none⟩) (d0.files.length - 1) c')):=hon9.trans (Only.setCell w9 ⟨g,o+3,none⟩ _) (fun k _ h=>.inr h) (fun k _ h=>.inl h)
     have hlow:∀ k,(k=g∨k=gr')→w1.heap.size≤k:=by
      rintro k (e | e)
      ·rcases hgm with h | h
       ·omega
       ·have:=(hbW1 g h).2
        omega
      ·have:=(hbW1 _ (HVB.out gr' rfl).1).2
       omega
     have HZ9:=Lib.hid ((hO9.block (w.heap.size+1) (by omega) (fun e=>by have:=hlow _ e;omega)).trans HZ8.out)
     have hb9:=hb8w.trans (hO9.below (B:=w.heap.size) (by omega) (fun k hk e=>by have:=hlow _ e;omega))
     have hrow9:((w9.setCell ⟨g,o+3,none⟩ (.slice (some ⟨gr',0,none⟩) (d0.files.length - 1) c'))).ownsRow w1.heap.size 25 4 (.slice (some ⟨gr',0,none⟩) (d0.files.length - 1) c') (d0.files.length - 1) (inner.take (i * 4)++inner.drop ((i+1) * 4)) :=
      own_move HOWN9.out fun k hk=>Below.heap_setCell _ _ _ _ (fun e=>hgrg (by injection hk with hk;exact hk.trans e))
     have hgW:((w9.setCell ⟨g,o+3,none⟩ (.slice (some ⟨gr',0,none⟩) (d0.files.length - 1) c'))).heap[g]? = (w7.setCell ⟨g,o+3,none⟩ (.slice (some ⟨gr',0,none⟩) (d0.files.length - 1) c')).heap[g]? := setCell_same ⟨g,o+3,none⟩ _ (HG9.out.trans (hb8.block g hgl))
     have HTT:∃ v3 bl2,HeldC w2.heap.size w1.heap.size (putP t q {d0 with files:=delF d0.files n}) v3 bl2 (w9.setCell ⟨g,o+3,none⟩ (.slice (some ⟨gr',0,none⟩) (d0.files.length - 1) c'))∧∀ k∈bl2,k∈bl∨k∈([]:List Nat)∨w7.heap.size≤k:=by
      obtain ⟨b1,b2,b3,hbb,hLI⟩:=LT_del i HL9.out
      have hins:delF d0.files n=d0.files.take i++d0.files.drop (i+1):=by
       unfold delF
       rw [HI9.out]
      rw [hins]
      refine HT9.out _ _ _ _ b1 b2 b3 [] gr' hLI hbb List.nodup_nil (fun k hk=>(by cases hk)) (fun k hk h1 h2 => ?_) hgW ?_ rfl (.inl rfl)
      ·have hk7:k<w7.heap.size:=by
        rcases hk with rfl | h | h
        ·exact htbl
        ·have:=(hbW1 k h).1
         omega
        ·cases h
       exact (hO9.block k (by omega) (fun e=>e.elim h1 (fun e=>h2 (by rw [e];rfl)))).trans (hb8.block k hk7)
      ·have hlen:(d0.files.take i++d0.files.drop (i+1)).length=d0.files.length - 1:=by
        rw [List.length_append,List.length_take,List.length_drop]
        omega
       rw [hlen]
       exact hrow9
     have hO9s:=hO9.size
     have hs9:=hon9.size
     clear HDEL hrow9 hgW hO9 HOWN9 hown9 hon9 HG9
     have HTT9:=Lib.hid HTT
     clear HTT
     obtain ⟨v3,bl2,hH9,hs9⟩:=HTT9.out
     clear HTT9 hs9
     obtain ⟨W9,hW9⟩:∃ W9,(w9.setCell ⟨g,o+3,none⟩ (.slice (some ⟨gr',0,none⟩) (d0.files.length - 1) c'))=W9:=⟨_,rfl⟩
     rw [hW9] at hH9 hb9 HZ9 hO9s
     generalize putP t q {d0 with files:=delF d0.files n}=u at *
     obtain ⟨A9,c9,rfl,hat9⟩:=hH9.at
     have HH9:=Lib.hid hH9
     have r0:=hat9.c0
     have r1:=hat9.c1
     have r2:=hat9.c2
     have r3:=hat9.c3
     clear hat9 hH9 HT9 HO9 HL9 HVB HFI HCP HGC HGN
     have HZF:=Lib.hid (store4_box HZ9.out (.string u.name) (.int .u8 u.kind) (.string u.data) (.slice A9 u.files.length c9))
     have HB9:=Lib.hid (store4_below hb9 (g:=w.heap.size+1) (by omega) (.string u.name) (.int .u8 u.kind) (.string u.data) (.slice A9 u.files.length c9))
     obtain ⟨z0,z1,z2,z3⟩:=c4A HZ9.out
     have u0:=unfr HZ9.out 0
     have u1:=unfr HZ9.out 1
     have u2:=unfr HZ9.out 2
     have u3:=unfr HZ9.out 3
     go_wp2_with fail
     refine bodyPost_ret (results_ct rfl _ _ (w.heap.size+1) 25 (fc u A9 c9) (0,0) _ rfl HZF.out Tryz.underlying25 rfl (by kernel_rfl)) rfl ?_
     rw [HG4.out]
     have hst:=fun k hk=>store4_other W9 (g:=w.heap.size+1) (k:=k) hk (.string u.name) (.int .u8 u.kind) (.string u.data) (.slice A9 u.files.length c9)
     have hsz9:((((W9.setCell ⟨w.heap.size+1,0,none⟩ (.string u.name)).setCell ⟨w.heap.size+1,1,none⟩ (.int .u8 u.kind)).setCell ⟨w.heap.size+1,2,none⟩ (.string u.data)).setCell ⟨w.heap.size+1,3,none⟩ (.slice A9 u.files.length c9)).heap.size=W9.heap.size:=by simp [World.setCell]
     have hall:∀ W':World,(∀ k,w.heap.size≤k→k<((((W9.setCell ⟨w.heap.size+1,0,none⟩ (.string u.name)).setCell ⟨w.heap.size+1,1,none⟩ (.int .u8 u.kind)).setCell ⟨w.heap.size+1,2,none⟩ (.string u.data)).setCell ⟨w.heap.size+1,3,none⟩ (.slice A9 u.files.length c9)).heap.size→W'.heap[k]? = ((((W9.setCell ⟨w.heap.size+1,0,none⟩ (.string u.name)).setCell ⟨w.heap.size+1,1,none⟩ (.int .u8 u.kind)).setCell ⟨w.heap.size+1,2,none⟩ (.string u.data)).setCell ⟨w.heap.size+1,3,none⟩ (.slice A9 u.files.length c9)).heap[k]?)→u.files.length≤c9∧FileK.C W' A9 u.files.length u.files:=by
      intro W' hW
      have hFT:=FT_move _ _ _ W' _ _ HH9.out.ft fun k hk=>by
       have hk2:=FT_lt _ _ _ _ _ HH9.out.ft k hk
       exact (hW k (by omega) (by omega)).trans (hst k (by omega))
      obtain ⟨A0,c0,he0,hle0,hC0⟩:=FT_reads _ _ _ _ _ hFT
      injection he0 with e1 _ e2
      subst e1
      subst e2
      exact ⟨hle0,hC0⟩
     exact ⟨A9,c9,rfl,(hall _ fun _ _ _=>rfl).1,fun W' hW=>(hall W' hW).2,HB9.out⟩
end Go.Proofs.YthlcjjhfkldmhaaGreatDoor.G
end
section
namespace Go.Proofs.YthlcjjhfkldmhaaGreatDoor.G
open Go.RowKit Go.Lib Go.Proofs.YthlcjjhfkldmhaaGreatDoorW.PrintWords Go.Proofs.YthlcjjhfkldmhaaGreatDoorW.PrintLast
set_option linter.unusedVariables false
set_option linter.unusedSimpArgs false
def nilR (t:File):File×Int:=if rightT t=true then (zeroF,2) else (zeroF,30)
def putA (t:File) (p:List ByteArray) (f:File):File×Int:=match p.getLast? with | none=>nilR t | some n=>putR t p.dropLast n f
def dropA (t:File) (p:List ByteArray):File×Int:=match p.getLast? with | none=>nilR t | some n=>dropR t p.dropLast n
theorem putA_nil (t f:File):putA t [] f=nilR t:=rfl
theorem dropA_nil (t:File):dropA t []=nilR t:=rfl
theorem putA_snoc (t f:File) (q:List ByteArray) (n:ByteArray):putA t (q++[n]) f=putR t q n f:=by simp [putA]
theorem dropA_snoc (t:File) (q:List ByteArray) (n:ByteArray):dropA t (q++[n])=dropR t q n:=by simp [dropA]
theorem nil_or_snoc (p:List ByteArray):p=[]∨∃ q n,p=q++[n]:=by
 cases h:p.getLast? with
 | none=>exact .inl (List.getLast?_eq_none_iff.1 h)
 | some n=>exact .inr ⟨p.dropLast,n,by
   have hne:p≠[]:=fun e=>by subst e;simp at h
   rw [List.getLast?_eq_some_getLast hne] at h
   injection h with h
   rw [← h]
   exact (List.dropLast_concat_getLast hne).symm⟩
theorem zero_bulk4:zeroF.bulk=4:=by rw [bulk_eq];rfl
theorem nil_bulk (t:File):(nilR t).1.bulk≤4:=by
 unfold nilR
 split <;> exact Nat.le_of_eq zero_bulk4
theorem dropA_bulk (t:File) (p:List ByteArray):(dropA t p).1.bulk≤t.bulk+4:=by
 rcases nil_or_snoc p with rfl | ⟨q,n,rfl⟩
 ·rw [dropA_nil]
  have:=nil_bulk t
  omega
 ·have hz:=zero_bulk4
  rw [dropA_snoc]
  unfold dropR
  split
  ·cases hg:goP t (q++[n]) with
   | mk k o =>
    cases o with
    | none=>simp only;omega
    | some y =>
     simp only
     cases hg2:goP t q with
     | mk k2 o2 =>
      cases o2 with
      | none=>simp only;omega
      | some d =>
       have h1:=bulk_dropX (n:=n) hg2
       simp only
       omega
  ·simp only;omega
def AnsS (lo hi:Nat) (g:File×Int) (e:Ending) (w':World):Prop:=∃ A' c',e=.returned (.tuple #[.agg (fc g.1 A' c'),.int .i64 g.2])∧g.1.files.length≤c'∧∀ W':World,(∀ k,lo≤k→k<hi→W'.heap[k]? = w'.heap[k]?)→FileK.C W' A' g.1.files.length g.1.files
set_option maxHeartbeats 8000000 in
set_option maxRecDepth 100000 in
theorem tput0_calls (t f:File) (A Af:Option Addr) (c cf:Nat) (Ap:Option Addr) (cp:Nat) (w:World) (ht:FileK.C w A t.files.length t.files) (hc:t.files.length≤c) (hbt:t.bulk≤1000000000) :
  Calls Tryz.prog 115 #[fileV t A c,.slice Ap 0 cp,fileV f Af cf] w fun e w'=>∃ A' c',e=.returned (.tuple #[.agg #[.string (nilR t).1.name,.int .u8 (nilR t).1.kind,.string (nilR t).1.data,.slice A' (nilR t).1.files.length c'],.int .i64 (nilR t).2])∧(nilR t).1.files.length≤c'∧(∀ W':World,FileK.C W' A' (nilR t).1.files.length (nilR t).1.files)∧Below w.heap.size w w':=by
 have h2:=three_all w (fc t A c) (fc f Af cf) zC 25 25 25
 have hb0:=(((Below.refl w.heap.size w).alloc (Nat.le_refl _) (.cells (fc t A c) 25)).alloc (by simp) (.cells (fc f Af cf) 25)).alloc (by simp;omega) (.cells zC 25)
 have I:=Lib.hid (Hd.base hb0 (by first | exact Nat.le_refl _ | exact Below.size hb0))
 replace I:=Lib.hid (Hd.and I.out (Hd.box (h2.1)))
 replace I:=Lib.hid (Hd.and I.out (Hd.box (h2.2.1)))
 replace I:=Lib.hid (Hd.and I.out (Hd.box (h2.2.2)))
 replace I:=Lib.hid (Hd.and I.out (Hd.reads (Kd.C_below ht hb0)))
 clear h2
 obtain ⟨gr,hgr⟩:∃ g,nilR t=g:=⟨_,rfl⟩
 rw [hgr]
 unfold nilR at hgr
 have HG:=Lib.hid hgr
 clear hgr ht
 go_enter Tryz.func115,Tryz.ntmps115
 unfold fileV
 obtain ⟨lt0,lt1,lt2,lt3⟩:=c4A I.out.now.2.2.2.1
 go_wp2_with fail
 clear lt0 lt1 lt2 lt3
 generalize (((w.alloc (.cells (fc t A c) 25)).alloc (.cells (fc f Af cf) 25)).alloc (.cells zC 25))=W0 at *
 refine ((show Calls Tryz.prog 38 #[.agg (fc t A c)] _ _ from right_calls t A c _ (by omega) I.out.now.1 hc)).mono ?_
 rintro e w1 ⟨rfl,hq1⟩
 replace I:=Lib.hid (Hd.mv I.out hq1)
 cases hrt:rightT t
 ·skip
  have HG1:=HG.out
  rw [hrt,if_neg (by decide)] at HG1
  replace HG1:=Lib.hid HG1
  have HZ:=I.out.now.2.1
  have HZF:=Lib.hid (store4_box HZ (.string ⟨#[]⟩) (.int .u8 0) (.string ⟨#[]⟩) (.slice none 0 0))
  have HB9:=Lib.hid (store4_below I.out.now.2.2.2.2 (g:=w.heap.size+2) (by omega) (.string ⟨#[]⟩) (.int .u8 0) (.string ⟨#[]⟩) (.slice none 0 0))
  obtain ⟨z0,z1,z2,z3⟩:=c4A HZ
  obtain ⟨u0,u1,u2,u3⟩:=u4A HZ
  go_wp2_with fail
  refine bodyPost_ret (results_ct rfl _ _ (w.heap.size+2) 25 zC (0,0) _ rfl HZF.out Tryz.underlying25 rfl (by kernel_rfl)) rfl ?_
  rw [← HG1.out]
  exact ⟨none,0,rfl,Nat.le_refl _,fun _=>Kd.C_nil FileK _,HB9.out⟩
 ·skip
  have HG1:=HG.out
  rw [if_pos hrt] at HG1
  replace HG1:=Lib.hid HG1
  have HZ:=I.out.now.2.1
  have HZF:=Lib.hid (store4_box HZ (.string ⟨#[]⟩) (.int .u8 0) (.string ⟨#[]⟩) (.slice none 0 0))
  have HB9:=Lib.hid (store4_below I.out.now.2.2.2.2 (g:=w.heap.size+2) (by omega) (.string ⟨#[]⟩) (.int .u8 0) (.string ⟨#[]⟩) (.slice none 0 0))
  obtain ⟨z0,z1,z2,z3⟩:=c4A HZ
  obtain ⟨u0,u1,u2,u3⟩:=u4A HZ
  go_wp2_with fail
  refine bodyPost_ret (results_ct rfl _ _ (w.heap.size+2) 25 zC (0,0) _ rfl HZF.out Tryz.underlying25 rfl (by kernel_rfl)) rfl ?_
  rw [← HG1.out]
  exact ⟨none,0,rfl,Nat.le_refl _,fun _=>Kd.C_nil FileK _,HB9.out⟩
set_option maxHeartbeats 8000000 in
set_option maxRecDepth 100000 in
theorem tdrop0_calls (t:File) (A:Option Addr) (c:Nat) (Ap:Option Addr) (cp:Nat) (w:World) (ht:FileK.C w A t.files.length t.files) (hc:t.files.length≤c) (hbt:t.bulk≤1000000000) :
  Calls Tryz.prog 114 #[fileV t A c,.slice Ap 0 cp] w fun e w'=>∃ A' c',e=.returned (.tuple #[.agg #[.string (nilR t).1.name,.int .u8 (nilR t).1.kind,.string (nilR t).1.data,.slice A' (nilR t).1.files.length c'],.int .i64 (nilR t).2])∧(nilR t).1.files.length≤c'∧(∀ W':World,FileK.C W' A' (nilR t).1.files.length (nilR t).1.files)∧Below w.heap.size w w':=by
 have h2:=two_boxes w (fc t A c) zC 25 25
 have hb0:=((Below.refl w.heap.size w).alloc (Nat.le_refl _) (.cells (fc t A c) 25)).alloc (by simp) (.cells zC 25)
 have I:=Lib.hid (Hd.base hb0 (by first | exact Nat.le_refl _ | exact Below.size hb0))
 replace I:=Lib.hid (Hd.and I.out (Hd.box (h2.1)))
 replace I:=Lib.hid (Hd.and I.out (Hd.box (h2.2)))
 replace I:=Lib.hid (Hd.and I.out (Hd.reads (Kd.C_below ht hb0)))
 clear h2
 obtain ⟨gr,hgr⟩:∃ g,nilR t=g:=⟨_,rfl⟩
 rw [hgr]
 unfold nilR at hgr
 have HG:=Lib.hid hgr
 clear hgr ht
 go_enter Tryz.func114,Tryz.ntmps114
 unfold fileV
 obtain ⟨lt0,lt1,lt2,lt3⟩:=c4A I.out.now.2.2.1
 go_wp2_with fail
 clear lt0 lt1 lt2 lt3
 generalize ((w.alloc (.cells (fc t A c) 25)).alloc (.cells zC 25))=W0 at *
 refine ((show Calls Tryz.prog 38 #[.agg (fc t A c)] _ _ from right_calls t A c _ (by omega) I.out.now.1 hc)).mono ?_
 rintro e w1 ⟨rfl,hq1⟩
 replace I:=Lib.hid (Hd.mv I.out hq1)
 cases hrt:rightT t
 ·skip
  have HG1:=HG.out
  rw [hrt,if_neg (by decide)] at HG1
  replace HG1:=Lib.hid HG1
  have HZ:=I.out.now.2.1
  have HZF:=Lib.hid (store4_box HZ (.string ⟨#[]⟩) (.int .u8 0) (.string ⟨#[]⟩) (.slice none 0 0))
  have HB9:=Lib.hid (store4_below I.out.now.2.2.2 (g:=w.heap.size+1) (by omega) (.string ⟨#[]⟩) (.int .u8 0) (.string ⟨#[]⟩) (.slice none 0 0))
  obtain ⟨z0,z1,z2,z3⟩:=c4A HZ
  obtain ⟨u0,u1,u2,u3⟩:=u4A HZ
  go_wp2_with fail
  refine bodyPost_ret (results_ct rfl _ _ (w.heap.size+1) 25 zC (0,0) _ rfl HZF.out Tryz.underlying25 rfl (by kernel_rfl)) rfl ?_
  rw [← HG1.out]
  exact ⟨none,0,rfl,Nat.le_refl _,fun _=>Kd.C_nil FileK _,HB9.out⟩
 ·skip
  have HG1:=HG.out
  rw [if_pos hrt] at HG1
  replace HG1:=Lib.hid HG1
  have HZ:=I.out.now.2.1
  have HZF:=Lib.hid (store4_box HZ (.string ⟨#[]⟩) (.int .u8 0) (.string ⟨#[]⟩) (.slice none 0 0))
  have HB9:=Lib.hid (store4_below I.out.now.2.2.2 (g:=w.heap.size+1) (by omega) (.string ⟨#[]⟩) (.int .u8 0) (.string ⟨#[]⟩) (.slice none 0 0))
  obtain ⟨z0,z1,z2,z3⟩:=c4A HZ
  obtain ⟨u0,u1,u2,u3⟩:=u4A HZ
  go_wp2_with fail
  refine bodyPost_ret (results_ct rfl _ _ (w.heap.size+1) 25 zC (0,0) _ rfl HZF.out Tryz.underlying25 rfl (by kernel_rfl)) rfl ?_
  rw [← HG1.out]
  exact ⟨none,0,rfl,Nat.le_refl _,fun _=>Kd.C_nil FileK _,HB9.out⟩
theorem dropS (t:File) (A:Option Addr) (c:Nat) (Ap:Option Addr) (cp:Nat) (p:List ByteArray) (w:World) (ht:FileK.C w A t.files.length t.files) (hc:t.files.length≤c) (hbt:t.bulk≤1000000000) (hp:Kd.C Kd.string w Ap p.length p) (hcp:p.length≤cp) (hpl:p.length≤1000000000):Calls Tryz.prog 114 #[.agg (fc t A c),.slice Ap p.length cp] w fun e w'=>AnsS w.heap.size w'.heap.size (dropA t p) e w'∧Below w.heap.size w w':=by
 rcases nil_or_snoc p with rfl | ⟨q,n,rfl⟩
 ·refine (show Calls Tryz.prog 114 #[fileV t A c,.slice Ap 0 cp] w _ from tdrop0_calls t A c Ap cp w ht hc hbt).mono ?_
  rintro e w' ⟨A',c',h1,h2,h3,hb⟩
  exact ⟨⟨A',c',h1,h2,fun W' _=>h3 W'⟩,hb⟩
 ·rw [dropA_snoc]
  rw [List.length_append,List.length_singleton] at hcp hpl ⊢
  refine (show Calls Tryz.prog 114 #[fileV t A c,.slice Ap (q.length+1) cp] w _ from drop_calls t A c Ap cp q n w ht hc hbt hp hcp (by omega)).mono ?_
  rintro e w' ⟨A',c',h1,h2,h3,hb⟩
  exact ⟨⟨A',c',h1,h2,h3⟩,hb⟩
theorem putS (t f:File) (A Af:Option Addr) (c cf:Nat) (Ap:Option Addr) (cp:Nat) (p:List ByteArray) (w:World) (ht:FileK.C w A t.files.length t.files) (hc:t.files.length≤c) (hbt:t.bulk≤1000000000) (hp:Kd.C Kd.string w Ap p.length p) (hcp:p.length≤cp) (hpl:p.length≤1000000000) (hf:FileK.C w Af f.files.length f.files) (hcf:f.files.length≤cf) (hbf:f.bulk≤1000000000) (hn:∀ n∈p,n.size≤1000000000):Calls Tryz.prog 115 #[.agg (fc t A c),.slice Ap p.length cp,.agg (fc f Af cf)] w fun e w'=>AnsS w.heap.size w'.heap.size (putA t p f) e w'∧Below w.heap.size w w':=by
 rcases nil_or_snoc p with rfl | ⟨q,n,rfl⟩
 ·refine (show Calls Tryz.prog 115 #[fileV t A c,.slice Ap 0 cp,fileV f Af cf] w _ from tput0_calls t f A Af c cf Ap cp w ht hc hbt).mono ?_
  rintro e w' ⟨A',c',h1,h2,h3,hb⟩
  exact ⟨⟨A',c',h1,h2,fun W' _=>h3 W'⟩,hb⟩
 ·rw [putA_snoc]
  have hn1:=hn n (by simp)
  rw [List.length_append,List.length_singleton] at hcp hpl ⊢
  refine (show Calls Tryz.prog 115 #[fileV t A c,.slice Ap (q.length+1) cp,fileV f Af cf] w _ from put_calls t f A Af c cf Ap cp q n w ht hc hbt hf hcf hbf hn1 hp hcp (by omega)).mono ?_
  rintro e w' ⟨A',c',h1,h2,h3,hb⟩
  exact ⟨⟨A',c',h1,h2,h3⟩,hb⟩
theorem sameC (x:File) (A B:Option Addr) (c d:Nat) (W:World) (hx:x.bulk≤1099511627776) (hA:FileK.C W A x.files.length x.files) (hc:x.files.length≤c) (hB:FileK.C W B x.files.length x.files) (hd:x.files.length≤d) :
  Calls Tryz.prog 11 #[.agg (fc x A c),.agg (fc x B d)] W fun e w'=>e=.returned (.bool true)∧Below W.heap.size W w' :=
 (show Calls Tryz.prog 11 #[fileV x A c,fileV x B d] W _ from rsame_file _ x x A c B d W (Nat.le_refl _) hx hA hc hB hd).mono (by
  rintro e w' ⟨rfl,hb⟩
  exact ⟨by rw [sameT_self],hb⟩)
theorem rcopyC (x:File) (A:Option Addr) (c:Nat) (W:World) (hx:x.bulk≤1099511627776) (hA:FileK.C W A x.files.length x.files) (hc:x.files.length≤c) :
  Calls Tryz.prog 5 #[.agg (fc x A c)] W fun e w'=>∃ A' c',e=.returned (.agg (fc x A' c'))∧x.files.length≤c'∧FileK.C w' A' x.files.length x.files∧Below W.heap.size W w':=by
 refine (show Calls Tryz.prog 5 #[fileV x A c] W _ from rcopy_file x.bulk x A c W (Nat.le_refl _) hx hA hc).mono ?_
 rintro e w' ⟨v,rfl,hR,hb⟩
 obtain ⟨A',c',rfl,hc',hC'⟩:=Kd.R_reads hR
 exact ⟨A',c',rfl,hc',hC',hb⟩
end Go.Proofs.YthlcjjhfkldmhaaGreatDoor.G
end
section
namespace Go.Proofs.YthlcjjhfkldmhaaGreatDoor.G
open Go.RowKit Go.Lib Go.Proofs.YthlcjjhfkldmhaaGreatDoorW.PrintWords Go.Proofs.YthlcjjhfkldmhaaGreatDoorW.PrintLast
set_option linter.unusedVariables false
set_option linter.unusedSimpArgs false
set_option maxHeartbeats 4000000 in
theorem rright_calls (f:File) (A:Option Addr) (c:Nat) (w:World) (hbk:f.bulk≤1099511627776) (hr:FileK.C w A f.files.length f.files) (hc:f.files.length≤c) :
  Calls Tryz.prog 7 #[fileV f A c] w fun e w'=>e=.returned (.bool (rightT f))∧Below w.heap.size w w':=by
 have HB:=Lib.hid ((Below.refl w.heap.size w).alloc (Nat.le_refl _) (.cells (fc f A c) 25))
 have HW:=Lib.hid (rcheck_calls f A c _ hbk (Kd.C_below hr HB.out) hc)
 have HS:=Lib.hid (show (w.alloc (.cells (fc f A c) 25)).heap.size=w.heap.size+1 by simp)
 unfold rightT
 generalize checkR f=cr at *
 clear hr hbk
 go_enter Tryz.func7,Tryz.ntmps7
 unfold fileV
 go_wp2_with fail
 refine HW.out.mono ?_
 rintro e w1 ⟨v,rfl,ho,hb⟩
 have hb2:=HB.out.trans (hb.mono (by rw [HS.out];omega))
 obtain ⟨A1,c1,rfl,hc1,hC1⟩:=Kd.R_reads ho
 clear ho hC1 hb HW
 go_wp2_with fail
 go_ret
 exact ⟨rfl,hb2⟩
def rgetR (t:File) (p:List ByteArray):File×Int:=if rightT t=true then (if (findR t p).2=0 then ((findR t p).1,0) else (zeroF,(findR t p).2)) else (zeroF,30)
def rdropR (t:File) (p:List ByteArray):File×Int:=if rightT t=true then (if p.length=0 then (zeroF,2) else if (findR t p).2=0 then (withR true zeroF p t,0) else (zeroF,(findR t p).2)) else (zeroF,30)
theorem findR_bulk:∀ (p:List ByteArray) (t:File),(findR t p).1.bulk≤t.bulk+4
 | [],t=>Nat.le_add_right _ _
 | n :: p,t=>by
  have h0:zeroF.bulk=4:=by rw [bulk_eq];rfl
  rw [findR]
  split
  ·cases hx:t.files.find? (nameIs n) with
   | none=>show zeroF.bulk≤_;omega
   | some x =>
    have h1:=findR_bulk p x
    have h2:=bulk_child (List.mem_of_find?_eq_some hx)
    show (findR x p).1.bulk≤_
    omega
  ·show zeroF.bulk≤_;omega
set_option maxHeartbeats 8000000 in
set_option maxRecDepth 100000 in
theorem rget_calls (t:File) (A:Option Addr) (c:Nat) (Ap:Option Addr) (cp:Nat) (p:List ByteArray) (w:World) (ht:FileK.C w A t.files.length t.files) (hc:t.files.length≤c) (hbt:t.bulk≤1000000000) (hp:Kd.C Kd.string w Ap p.length p) (hcp:p.length≤cp) (hpl:p.length≤1000000000) :
  Calls Tryz.prog 73 #[fileV t A c,.slice Ap p.length cp] w fun e w'=>∃ A' c',e=.returned (.tuple #[.agg #[.string (rgetR t p).1.name,.int .u8 (rgetR t p).1.kind,.string (rgetR t p).1.data,.slice A' (rgetR t p).1.files.length c'],.int .i64 (rgetR t p).2])∧(rgetR t p).1.files.length≤c'∧(∀ W':World,(∀ k,w.heap.size≤k→k<w'.heap.size→W'.heap[k]? = w'.heap[k]?)→FileK.C W' A' (rgetR t p).1.files.length (rgetR t p).1.files)∧Below w.heap.size w w':=by
 have h2:=two_boxes w (fc t A c) zC 25 25
 have hb0:=((Below.refl w.heap.size w).alloc (Nat.le_refl _) (.cells (fc t A c) 25)).alloc (by simp) (.cells zC 25)
 have I:=Lib.hid (Hd.base hb0 (by first | exact Nat.le_refl _ | exact Below.size hb0))
 replace I:=Lib.hid (Hd.and I.out (Hd.box (h2.1)))
 replace I:=Lib.hid (Hd.and I.out (Hd.box (h2.2)))
 replace I:=Lib.hid (Hd.and I.out (Hd.reads (Kd.C_below ht hb0)))
 clear h2
 replace I:=Lib.hid (Hd.and I.out (Hd.reads (Kd.C_below hp hb0)))
 have HG:Hid (rgetR t p=_):=Lib.hid rfl
 clear ht hp
 obtain ⟨gr,hgr⟩:∃ g,rgetR t p=g:=⟨_,rfl⟩
 rw [hgr] at HG ⊢
 unfold rgetR at hgr
 replace HG:=Lib.hid hgr
 clear hgr
 go_enter Tryz.func73,Tryz.ntmps73
 unfold fileV
 obtain ⟨lt0,lt1,lt2,lt3⟩:=c4A I.out.now.2.2.2.1
 go_wp2_with fail
 clear lt0 lt1 lt2 lt3
 generalize ((w.alloc (.cells (fc t A c) 25)).alloc (.cells zC 25))=W0 at *
 refine ((show Calls Tryz.prog 7 #[.agg (fc t A c)] _ _ from rright_calls t A c _ (by omega) I.out.now.2.1 hc)).mono ?_
 rintro e w1 ⟨rfl,hq1⟩
 replace I:=Lib.hid (Hd.mv I.out hq1)
 cases hrt:rightT t
 ·skip
  have HG1:=HG.out
  rw [hrt,if_neg (by decide)] at HG1
  replace HG1:=Lib.hid HG1
  have HZ:=I.out.now.2.2.1
  have HZF:=Lib.hid (store4_box HZ (.string ⟨#[]⟩) (.int .u8 0) (.string ⟨#[]⟩) (.slice none 0 0))
  have HB9:=Lib.hid (store4_below I.out.now.2.2.2.2 (g:=w.heap.size+1) (by omega) (.string ⟨#[]⟩) (.int .u8 0) (.string ⟨#[]⟩) (.slice none 0 0))
  obtain ⟨z0,z1,z2,z3⟩:=c4A HZ
  obtain ⟨u0,u1,u2,u3⟩:=u4A HZ
  go_wp2_with fail
  refine bodyPost_ret (results_ct rfl _ _ (w.heap.size+1) 25 zC (0,0) _ rfl HZF.out Tryz.underlying25 rfl (by kernel_rfl)) rfl ?_
  rw [← HG1.out]
  exact ⟨none,0,rfl,Nat.le_refl _,fun _ _=>Kd.C_nil FileK _,HB9.out⟩
 ·skip
  have HG1:=HG.out
  rw [if_pos hrt] at HG1
  replace HG1:=Lib.hid HG1
  obtain ⟨lt0,lt1,lt2,lt3⟩:=c4A I.out.now.2.2.2.1
  go_wp2_with fail
  clear lt0 lt1 lt2 lt3
  have hfb:=findR_bulk p t
  refine ((show Calls Tryz.prog 74 #[.agg (fc t A c),.slice Ap p.length cp] _ _ from rfind_calls t A c Ap cp p _ I.out.now.2.1 hc (by omega) I.out.now.1 hcp (by omega))).mono ?_
  rintro e w2 ⟨A1,c1,rfl,hc1,hC1,hq2⟩
  replace I:=Lib.hid (Hd.mv I.out hq2)
  obtain ⟨⟨y,k⟩,hy⟩:∃ g,findR t p=g:=⟨_,rfl⟩
  rw [hy] at HG1 hc1 hC1 hfb ⊢
  simp only at HG1 hc1 hC1 hfb ⊢
  clear hy
  replace I:=Lib.hid (Hd.and I.out (Hd.reads (Kd.C_below hC1 hq2)))
  clear hC1
  have ha3:=below_alloc (Below.refl w2.heap.size w2) (.cells (fc y A1 c1) 25)
  replace I:=Lib.hid (Hd.mv I.out ha3)
  replace I:=Lib.hid (Hd.and I.out (Hd.box (blk_new w2 (.cells (fc y A1 c1) 25))))
  by_cases hk:k=0
  rotate_left
  ·skip
   have HG2:=HG1.out
   rw [if_neg hk] at HG2
   replace HG2:=Lib.hid HG2
   have k1:(k != 0)=true:=by rw [bne_iff_ne];exact hk
   have HZ:=I.out.now.2.2.2.2.1
   have HZF:=Lib.hid (store4_box HZ (.string ⟨#[]⟩) (.int .u8 0) (.string ⟨#[]⟩) (.slice none 0 0))
   have HB9:=Lib.hid (store4_below I.out.now.2.2.2.2.2.2 (g:=w.heap.size+1) (by omega) (.string ⟨#[]⟩) (.int .u8 0) (.string ⟨#[]⟩) (.slice none 0 0))
   obtain ⟨z0,z1,z2,z3⟩:=c4A HZ
   obtain ⟨u0,u1,u2,u3⟩:=u4A HZ
   go_wp2_with fail
   refine bodyPost_ret (results_ct rfl _ _ (w.heap.size+1) 25 zC (0,0) _ rfl HZF.out Tryz.underlying25 rfl (by kernel_rfl)) rfl ?_
   rw [← HG2.out]
   exact ⟨none,0,rfl,Nat.le_refl _,fun _ _=>Kd.C_nil FileK _,HB9.out⟩
  ·skip
   subst hk
   have HG2:=HG1.out
   rw [if_pos rfl] at HG2
   replace HG2:=Lib.hid HG2
   obtain ⟨ly0,ly1,ly2,ly3⟩:=c4A I.out.now.1
   go_wp2_with fail
   clear ly0 ly1 ly2 ly3
   generalize (w2.alloc (.cells (fc y A1 c1) 25))=W3 at *
   have hzl:=blk_lt I.out.now.2.2.2.2.1
   refine ((show Calls Tryz.prog 5 #[.agg (fc y A1 c1)] _ _ from rcopy_file y.bulk y A1 c1 _ (Nat.le_refl _) (by omega) I.out.now.2.1 hc1)).mono ?_
   rintro e w4 ⟨v,rfl,hR,hq4⟩
   replace I:=Lib.hid (Hd.mv I.out hq4)
   obtain ⟨A2,c2,rfl,hc2,hC2⟩:=Kd.R_reads hR
   have HR2:=Lib.hid hR
   clear hR hC2
   have HZ:=I.out.now.2.2.2.2.1
   have HZF:=Lib.hid (store4_box HZ (.string y.name) (.int .u8 y.kind) (.string y.data) (.slice A2 y.files.length c2))
   have HB9:=Lib.hid (store4_below I.out.now.2.2.2.2.2.2 (g:=w.heap.size+1) (by omega) (.string y.name) (.int .u8 y.kind) (.string y.data) (.slice A2 y.files.length c2))
   obtain ⟨z0,z1,z2,z3⟩:=c4A HZ
   obtain ⟨u0,u1,u2,u3⟩:=u4A HZ
   go_wp2_with fail
   refine bodyPost_ret (results_ct rfl _ _ (w.heap.size+1) 25 (fc y A2 c2) (0,0) _ rfl HZF.out Tryz.underlying25 rfl (by kernel_rfl)) rfl ?_
   rw [← HG2.out]
   refine ⟨A2,c2,rfl,hc2,?_,HB9.out⟩
   exact fun W' hW'=>(Kd.R_reads' (Kd.R_step (Kd.R_bound (Kd.R_step (Kd.R_bound HR2.out) fun k hk _=>store4_other _ (g:=w.heap.size+1) (by omega) _ _ _ _)) fun k hk hl=>hW' k (by have:=hk.2.1;first | omega | exact hk.1.1.elim (fun h=>h.elim) (fun h=>by omega) | exact hk.1.elim (fun h=>h.elim) (fun h=>by omega) | (have:=hk.1;omega)) hl)).2.2
set_option maxHeartbeats 8000000 in
set_option maxRecDepth 100000 in
theorem rdrop_calls (t:File) (A:Option Addr) (c:Nat) (Ap:Option Addr) (cp:Nat) (p:List ByteArray) (w:World) (ht:FileK.C w A t.files.length t.files) (hc:t.files.length≤c) (hbt:t.bulk≤1000000000) (hp:Kd.C Kd.string w Ap p.length p) (hcp:p.length≤cp) (hpl:p.length≤1000000000) :
  Calls Tryz.prog 52 #[fileV t A c,.slice Ap p.length cp] w fun e w'=>∃ A' c',e=.returned (.tuple #[.agg #[.string (rdropR t p).1.name,.int .u8 (rdropR t p).1.kind,.string (rdropR t p).1.data,.slice A' (rdropR t p).1.files.length c'],.int .i64 (rdropR t p).2])∧(rdropR t p).1.files.length≤c'∧(∀ W':World,(∀ k,w.heap.size≤k→k<w'.heap.size→W'.heap[k]? = w'.heap[k]?)→FileK.C W' A' (rdropR t p).1.files.length (rdropR t p).1.files)∧Below w.heap.size w w':=by
 have h2:=two_boxes w (fc t A c) zC 25 25
 have hb0:=((Below.refl w.heap.size w).alloc (Nat.le_refl _) (.cells (fc t A c) 25)).alloc (by simp) (.cells zC 25)
 have I:=Lib.hid (Hd.base hb0 (by first | exact Nat.le_refl _ | exact Below.size hb0))
 replace I:=Lib.hid (Hd.and I.out (Hd.box (h2.1)))
 replace I:=Lib.hid (Hd.and I.out (Hd.box (h2.2)))
 replace I:=Lib.hid (Hd.and I.out (Hd.reads (Kd.C_below ht hb0)))
 clear h2
 replace I:=Lib.hid (Hd.and I.out (Hd.reads (Kd.C_below hp hb0)))
 obtain ⟨gr,hgr⟩:∃ g,rdropR t p=g:=⟨_,rfl⟩
 rw [hgr]
 unfold rdropR at hgr
 have HG:=Lib.hid hgr
 clear hgr ht hp
 go_enter Tryz.func52,Tryz.ntmps52
 unfold fileV
 obtain ⟨lt0,lt1,lt2,lt3⟩:=c4A I.out.now.2.2.2.1
 go_wp2_with fail
 clear lt0 lt1 lt2 lt3
 generalize ((w.alloc (.cells (fc t A c) 25)).alloc (.cells zC 25))=W0 at *
 refine ((show Calls Tryz.prog 7 #[.agg (fc t A c)] _ _ from rright_calls t A c _ (by omega) I.out.now.2.1 hc)).mono ?_
 rintro e w1 ⟨rfl,hq1⟩
 replace I:=Lib.hid (Hd.mv I.out hq1)
 cases hrt:rightT t
 ·skip
  have HG1:=HG.out
  rw [hrt,if_neg (by decide)] at HG1
  replace HG1:=Lib.hid HG1
  have HZ:=I.out.now.2.2.1
  have HZF:=Lib.hid (store4_box HZ (.string ⟨#[]⟩) (.int .u8 0) (.string ⟨#[]⟩) (.slice none 0 0))
  have HB9:=Lib.hid (store4_below I.out.now.2.2.2.2 (g:=w.heap.size+1) (by omega) (.string ⟨#[]⟩) (.int .u8 0) (.string ⟨#[]⟩) (.slice none 0 0))
  obtain ⟨z0,z1,z2,z3⟩:=c4A HZ
  obtain ⟨u0,u1,u2,u3⟩:=u4A HZ
  go_wp2_with fail
  refine bodyPost_ret (results_ct rfl _ _ (w.heap.size+1) 25 zC (0,0) _ rfl HZF.out Tryz.underlying25 rfl (by kernel_rfl)) rfl ?_
  rw [← HG1.out]
  exact ⟨none,0,rfl,Nat.le_refl _,fun _ _=>Kd.C_nil FileK _,HB9.out⟩
 ·skip
  have HG1:=HG.out
  rw [if_pos hrt] at HG1
  replace HG1:=Lib.hid HG1
  by_cases hp0:p.length=0
  ·skip
   have k0:((p.length:Int) == 0)=true:=by rw [beq_iff_eq];omega
   have HG2:=HG1.out
   rw [if_pos hp0] at HG2
   replace HG2:=Lib.hid HG2
   clear hp0
   have HZ:=I.out.now.2.2.1
   have HZF:=Lib.hid (store4_box HZ (.string ⟨#[]⟩) (.int .u8 0) (.string ⟨#[]⟩) (.slice none 0 0))
   have HB9:=Lib.hid (store4_below I.out.now.2.2.2.2 (g:=w.heap.size+1) (by omega) (.string ⟨#[]⟩) (.int .u8 0) (.string ⟨#[]⟩) (.slice none 0 0))
   obtain ⟨z0,z1,z2,z3⟩:=c4A HZ
   obtain ⟨u0,u1,u2,u3⟩:=u4A HZ
   go_wp2_with fail
   refine bodyPost_ret (results_ct rfl _ _ (w.heap.size+1) 25 zC (0,0) _ rfl HZF.out Tryz.underlying25 rfl (by kernel_rfl)) rfl ?_
   rw [← HG2.out]
   exact ⟨none,0,rfl,Nat.le_refl _,fun _ _=>Kd.C_nil FileK _,HB9.out⟩
  ·skip
   have k0:((p.length:Int) == 0)=false:=by rw [beq_eq_false_iff_ne];omega
   have HG2:=HG1.out
   rw [if_neg hp0] at HG2
   replace HG2:=Lib.hid HG2
   have hpn:Hid (p≠[]):=Lib.hid fun h=>hp0 (by rw [h];rfl)
   clear hp0
   obtain ⟨lt0,lt1,lt2,lt3⟩:=c4A I.out.now.2.2.2.1
   go_wp2_with fail
   clear lt0 lt1 lt2 lt3
   refine ((show Calls Tryz.prog 74 #[.agg (fc t A c),.slice Ap p.length cp] _ _ from rfind_calls t A c Ap cp p _ I.out.now.2.1 hc (by omega) I.out.now.1 hcp (by omega))).mono ?_
   rintro e w2 ⟨A1,c1,rfl,hc1,hC1,hq2⟩
   replace I:=Lib.hid (Hd.mv I.out hq2)
   obtain ⟨⟨y,k⟩,hy⟩:∃ g,findR t p=g:=⟨_,rfl⟩
   rw [hy] at HG2 hc1 hC1 ⊢
   simp only at HG2 hc1 hC1 ⊢
   clear hy hC1
   have ha3:=below_alloc (Below.refl w2.heap.size w2) (.cells (fc y A1 c1) 25)
   replace I:=Lib.hid (Hd.mv I.out ha3)
   replace I:=Lib.hid (Hd.and I.out (Hd.box (blk_new w2 (.cells (fc y A1 c1) 25))))
   by_cases hk:k=0
   rotate_left
   ·skip
    have HG3:=HG2.out
    rw [if_neg hk] at HG3
    replace HG3:=Lib.hid HG3
    have k1:(k != 0)=true:=by rw [bne_iff_ne];exact hk
    have HZ:=I.out.now.2.2.2.1
    have HZF:=Lib.hid (store4_box HZ (.string ⟨#[]⟩) (.int .u8 0) (.string ⟨#[]⟩) (.slice none 0 0))
    have HB9:=Lib.hid (store4_below I.out.now.2.2.2.2.2 (g:=w.heap.size+1) (by omega) (.string ⟨#[]⟩) (.int .u8 0) (.string ⟨#[]⟩) (.slice none 0 0))
    obtain ⟨z0,z1,z2,z3⟩:=c4A HZ
    obtain ⟨u0,u1,u2,u3⟩:=u4A HZ
    go_wp2_with fail
    refine bodyPost_ret (results_ct rfl _ _ (w.heap.size+1) 25 zC (0,0) _ rfl HZF.out Tryz.underlying25 rfl (by kernel_rfl)) rfl ?_
    rw [← HG3.out]
    exact ⟨none,0,rfl,Nat.le_refl _,fun _ _=>Kd.C_nil FileK _,HB9.out⟩
   ·skip
    subst hk
    have HG3:=HG2.out
    rw [if_pos rfl] at HG3
    replace HG3:=Lib.hid HG3
    obtain ⟨lt0,lt1,lt2,lt3⟩:=c4A I.out.now.2.2.2.2.1
    go_wp2_with fail
    clear lt0 lt1 lt2 lt3
    generalize (w2.alloc (.cells (fc y A1 c1) 25))=W3 at *
    have hzl:=blk_lt I.out.now.2.2.2.1
    refine ((show Calls Tryz.prog 75 #[.agg (fc t A c),.slice Ap p.length cp,.agg zC,.bool true] _ _ from rwith_calls true zeroF none 0 p t A c Ap cp (fun _=>False) _ hpn.out I.out.now.2.2.1 hc (by omega) I.out.now.2.1 hcp (by omega) (Kd.R_nil FileK _ _ 0 _) (fun _ h=>h.elim))).mono ?_
    rintro e w4 ⟨v,rfl,hR,hq4⟩
    replace I:=Lib.hid (Hd.mv I.out hq4)
    have hwk:=withR_keep true zeroF p t
    obtain ⟨u,hu⟩:∃ u,withR true zeroF p t=u:=⟨_,rfl⟩
    rw [hu] at hR hwk HG3
    obtain ⟨hu1,hu2,hu3⟩:=hwk
    rw [← hu1,← hu2,← hu3]
    clear hu
    obtain ⟨A2,c2,rfl,hc2,hC2⟩:=Kd.R_reads hR
    have HR2:=Lib.hid hR
    clear hR hC2 hu1 hu2 hu3
    have HZ:=I.out.now.2.2.2.1
    have HZF:=Lib.hid (store4_box HZ (.string u.name) (.int .u8 u.kind) (.string u.data) (.slice A2 u.files.length c2))
    have HB9:=Lib.hid (store4_below I.out.now.2.2.2.2.2 (g:=w.heap.size+1) (by omega) (.string u.name) (.int .u8 u.kind) (.string u.data) (.slice A2 u.files.length c2))
    obtain ⟨z0,z1,z2,z3⟩:=c4A HZ
    obtain ⟨u0,u1,u2,u3⟩:=u4A HZ
    go_wp2_with fail
    refine bodyPost_ret (results_ct rfl _ _ (w.heap.size+1) 25 (fc u A2 c2) (0,0) _ rfl HZF.out Tryz.underlying25 rfl (by kernel_rfl)) rfl ?_
    rw [← HG3.out]
    refine ⟨A2,c2,rfl,hc2,?_,HB9.out⟩
    exact fun W' hW'=>(Kd.R_reads' (Kd.R_step (Kd.R_bound (Kd.R_step (Kd.R_bound HR2.out) fun k hk _=>store4_other _ (g:=w.heap.size+1) (hk.1.elim (fun h=>h.elim) fun h=>by omega) _ _ _ _)) fun k hk hl=>hW' k (by have:=hk.2.1;first | omega | exact hk.1.1.elim (fun h=>h.elim) (fun h=>by omega) | exact hk.1.elim (fun h=>h.elim) (fun h=>by omega) | (have:=hk.1;omega)) hl)).2.2
set_option maxHeartbeats 8000000 in
set_option maxRecDepth 100000 in
theorem rput0_calls (t f:File) (A Af:Option Addr) (c cf:Nat) (Ap:Option Addr) (cp:Nat) (w:World) (ht:FileK.C w A t.files.length t.files) (hc:t.files.length≤c) (hbt:t.bulk≤1000000000) :
  Calls Tryz.prog 51 #[fileV t A c,.slice Ap 0 cp,fileV f Af cf] w fun e w'=>∃ A' c',e=.returned (.tuple #[.agg #[.string (nilR t).1.name,.int .u8 (nilR t).1.kind,.string (nilR t).1.data,.slice A' (nilR t).1.files.length c'],.int .i64 (nilR t).2])∧(nilR t).1.files.length≤c'∧(∀ W':World,(∀ k,w.heap.size≤k→k<w'.heap.size→W'.heap[k]? = w'.heap[k]?)→FileK.C W' A' (nilR t).1.files.length (nilR t).1.files)∧Below w.heap.size w w':=by
 have h2:=three_all w (fc t A c) (fc f Af cf) zC 25 25 25
 have hb0:=(((Below.refl w.heap.size w).alloc (Nat.le_refl _) (.cells (fc t A c) 25)).alloc (by simp) (.cells (fc f Af cf) 25)).alloc (by simp;omega) (.cells zC 25)
 have I:=Lib.hid (Hd.base hb0 (by first | exact Nat.le_refl _ | exact Below.size hb0))
 replace I:=Lib.hid (Hd.and I.out (Hd.box (h2.1)))
 replace I:=Lib.hid (Hd.and I.out (Hd.box (h2.2.1)))
 replace I:=Lib.hid (Hd.and I.out (Hd.box (h2.2.2)))
 replace I:=Lib.hid (Hd.and I.out (Hd.reads (Kd.C_below ht hb0)))
 clear h2
 obtain ⟨gr,hgr⟩:∃ g,nilR t=g:=⟨_,rfl⟩
 rw [hgr]
 unfold nilR at hgr
 have HG:=Lib.hid hgr
 clear hgr ht
 go_enter Tryz.func51,Tryz.ntmps51
 unfold fileV
 obtain ⟨lt0,lt1,lt2,lt3⟩:=c4A I.out.now.2.2.2.1
 go_wp2_with fail
 clear lt0 lt1 lt2 lt3
 generalize (((w.alloc (.cells (fc t A c) 25)).alloc (.cells (fc f Af cf) 25)).alloc (.cells zC 25))=W0 at *
 refine ((show Calls Tryz.prog 7 #[.agg (fc t A c)] _ _ from rright_calls t A c _ (by omega) I.out.now.1 hc)).mono ?_
 rintro e w1 ⟨rfl,hq1⟩
 replace I:=Lib.hid (Hd.mv I.out hq1)
 cases hrt:rightT t
 ·skip
  have HG1:=HG.out
  rw [hrt,if_neg (by decide)] at HG1
  replace HG1:=Lib.hid HG1
  have HZ:=I.out.now.2.1
  have HZF:=Lib.hid (store4_box HZ (.string ⟨#[]⟩) (.int .u8 0) (.string ⟨#[]⟩) (.slice none 0 0))
  have HB9:=Lib.hid (store4_below I.out.now.2.2.2.2 (g:=w.heap.size+2) (by omega) (.string ⟨#[]⟩) (.int .u8 0) (.string ⟨#[]⟩) (.slice none 0 0))
  obtain ⟨z0,z1,z2,z3⟩:=c4A HZ
  obtain ⟨u0,u1,u2,u3⟩:=u4A HZ
  go_wp2_with fail
  refine bodyPost_ret (results_ct rfl _ _ (w.heap.size+2) 25 zC (0,0) _ rfl HZF.out Tryz.underlying25 rfl (by kernel_rfl)) rfl ?_
  rw [← HG1.out]
  exact ⟨none,0,rfl,Nat.le_refl _,fun _ _=>Kd.C_nil FileK _,HB9.out⟩
 ·skip
  have HG1:=HG.out
  rw [if_pos hrt] at HG1
  replace HG1:=Lib.hid HG1
  have HZ:=I.out.now.2.1
  have HZF:=Lib.hid (store4_box HZ (.string ⟨#[]⟩) (.int .u8 0) (.string ⟨#[]⟩) (.slice none 0 0))
  have HB9:=Lib.hid (store4_below I.out.now.2.2.2.2 (g:=w.heap.size+2) (by omega) (.string ⟨#[]⟩) (.int .u8 0) (.string ⟨#[]⟩) (.slice none 0 0))
  obtain ⟨z0,z1,z2,z3⟩:=c4A HZ
  obtain ⟨u0,u1,u2,u3⟩:=u4A HZ
  go_wp2_with fail
  refine bodyPost_ret (results_ct rfl _ _ (w.heap.size+2) 25 zC (0,0) _ rfl HZF.out Tryz.underlying25 rfl (by kernel_rfl)) rfl ?_
  rw [← HG1.out]
  exact ⟨none,0,rfl,Nat.le_refl _,fun _ _=>Kd.C_nil FileK _,HB9.out⟩
def rputR (t:File) (q:List ByteArray) (n:ByteArray) (f:File):File×Int:=if rightT t=true then (if (findR t q).2=0 then (if (findR t q).1.kind=1 then (if rightT (withR false (nameF f n) (q++[n]) t)=true then (withR false (nameF f n) (q++[n]) t,0) else (zeroF,30)) else (zeroF,32)) else (zeroF,(findR t q).2)) else (zeroF,30)
set_option maxHeartbeats 8000000 in
set_option maxRecDepth 100000 in
theorem rput_calls (t f:File) (A Af:Option Addr) (c cf:Nat) (Ap:Option Addr) (cp:Nat) (q:List ByteArray) (n:ByteArray) (w:World) (ht:FileK.C w A t.files.length t.files) (hc:t.files.length≤c) (hbt:t.bulk≤1000000000) (hf:FileK.C w Af f.files.length f.files) (hcf:f.files.length≤cf) (hbf:f.bulk≤1000000000) (hn:n.size≤1000000000) (hp:Kd.C Kd.string w Ap (q++[n]).length (q++[n])) (hcp:q.length+1≤cp) (hpl:q.length≤1000000000) :
  Calls Tryz.prog 51 #[fileV t A c,.slice Ap (q.length+1) cp,fileV f Af cf] w fun e w'=>∃ A' c',e=.returned (.tuple #[.agg #[.string (rputR t q n f).1.name,.int .u8 (rputR t q n f).1.kind,.string (rputR t q n f).1.data,.slice A' (rputR t q n f).1.files.length c'],.int .i64 (rputR t q n f).2])∧(rputR t q n f).1.files.length≤c'∧(∀ W':World,(∀ k,w.heap.size≤k→k<w'.heap.size→W'.heap[k]? = w'.heap[k]?)→FileK.C W' A' (rputR t q n f).1.files.length (rputR t q n f).1.files)∧Below w.heap.size w w':=by
 have h2:=three_all w (fc t A c) (fc f Af cf) zC 25 25 25
 have hb0:=(((Below.refl w.heap.size w).alloc (Nat.le_refl _) (.cells (fc t A c) 25)).alloc (by simp) (.cells (fc f Af cf) 25)).alloc (by simp;omega) (.cells zC 25)
 have I:=Lib.hid (Hd.base hb0 (by first | exact Nat.le_refl _ | exact Below.size hb0))
 replace I:=Lib.hid (Hd.and I.out (Hd.box (h2.1)))
 replace I:=Lib.hid (Hd.and I.out (Hd.box (h2.2.1)))
 replace I:=Lib.hid (Hd.and I.out (Hd.box (h2.2.2)))
 replace I:=Lib.hid (Hd.and I.out (Hd.reads (Kd.C_below ht hb0)))
 clear h2
 replace I:=Lib.hid (Hd.and I.out (Hd.reads (Kd.C_below hp hb0)))
 replace I:=Lib.hid (Hd.and I.out (Hd.reads (Kd.C_below hf hb0)))
 have HQ:=Lib.hid (show Kd.C Kd.string w Ap q.length q from by
  have h1:=Kd.C_take hp (m:=q.length) (by simp)
  rwa [List.take_left' rfl] at h1)
 have HP:=Lib.hid hp
 have hqn:(q++[n]).length=q.length+1:=by simp
 have hk1:((q.length:Int)+1 - 1)=(q.length:Int):=by omega
 have wq:IntKind.i64.wrap (q.length:Int)=(q.length:Int):=by rw [IntKind.wrap_i64];omega
 have gq:(q.length:Int)<(q.length:Int)+1:=by omega
 have gq0:(0:Int)≤(q.length:Int):=by omega
 have k0:((q.length:Int)+1 == 0)=false:=by rw [beq_eq_false_iff_ne];omega
 obtain ⟨pad,rfl,hx⟩:=Kd.at_string HP.out (q.length:Int) (by omega) (by simp;omega)
 rw [Int.toNat_natCast] at hx
 have he:rdOf ByteArray.empty (q++[n]) (q.length:Int)=n:=by simp [rdOf]
 rw [he] at hx
 have HX:=Lib.hid (fun W (h:Below w.heap.size w W)=>(h.cell (World.block_lt_of_cell? w _ hx)).trans hx)
 clear he hx
 obtain ⟨gr,hgr⟩:∃ g,rputR t q n f=g:=⟨_,rfl⟩
 rw [hgr]
 unfold rputR at hgr
 have HG:=Lib.hid hgr
 clear hgr ht hp hf
 go_enter Tryz.func51,Tryz.ntmps51
 unfold fileV
 obtain ⟨lt0,lt1,lt2,lt3⟩:=c4A I.out.now.2.2.2.2.2.1
 go_wp2_with fail
 clear lt0 lt1 lt2 lt3
 generalize (((w.alloc (.cells (fc t A c) 25)).alloc (.cells (fc f Af cf) 25)).alloc (.cells zC 25))=W0 at *
 refine ((show Calls Tryz.prog 7 #[.agg (fc t A c)] _ _ from rright_calls t A c _ (by omega) I.out.now.2.2.1 hc)).mono ?_
 rintro e w1 ⟨rfl,hq1⟩
 replace I:=Lib.hid (Hd.mv I.out hq1)
 cases hrt:rightT t
 ·skip
  have HG1:=HG.out
  rw [hrt,if_neg (by decide)] at HG1
  replace HG1:=Lib.hid HG1
  have HZ:=I.out.now.2.2.2.1
  have HZF:=Lib.hid (store4_box HZ (.string ⟨#[]⟩) (.int .u8 0) (.string ⟨#[]⟩) (.slice none 0 0))
  have HB9:=Lib.hid (store4_below I.out.now.2.2.2.2.2.2 (g:=w.heap.size+2) (by omega) (.string ⟨#[]⟩) (.int .u8 0) (.string ⟨#[]⟩) (.slice none 0 0))
  obtain ⟨z0,z1,z2,z3⟩:=c4A HZ
  obtain ⟨u0,u1,u2,u3⟩:=u4A HZ
  go_wp2_with fail
  refine bodyPost_ret (results_ct rfl _ _ (w.heap.size+2) 25 zC (0,0) _ rfl HZF.out Tryz.underlying25 rfl (by kernel_rfl)) rfl ?_
  rw [← HG1.out]
  exact ⟨none,0,rfl,Nat.le_refl _,fun _ _=>Kd.C_nil FileK _,HB9.out⟩
 ·skip
  have HG1:=HG.out
  rw [if_pos hrt] at HG1
  replace HG1:=Lib.hid HG1
  have HFI:=Lib.hid (fun W (h:Below w1.heap.size w1 W)=>(show Calls Tryz.prog 74 #[.agg (fc t A c),.slice (some pad) q.length cp] W _ from rfind_calls t A c (some pad) cp q W (Kd.C_below I.out.now.2.2.1 h) hc (by omega) (Kd.C_below HQ.out ((I.out.now.2.2.2.2.2.2).trans (h.mono (Below.size I.out.now.2.2.2.2.2.2)))) (by omega) (by omega)))
  obtain ⟨lt0,lt1,lt2,lt3⟩:=c4A I.out.now.2.2.2.2.2.1
  go_wp2_with fail
  have HUB:Hid ((findR t q).2=0→(withR false (nameF f n) (q++[n]) t).bulk≤1099511627776):=Lib.hid fun hz=>by
   have hg:=go_findR q t (right_sort hrt)
   rw [if_pos hz] at hg
   have hw:=with_put q t (findR t q).1 (nameF f n) (right_sort hrt) hg
   rw [show (nameF f n).name=n from rfl] at hw
   rw [hw]
   have h1:=bulk_putX (x:=nameF f n) hg
   have h2:=bulk_name f n
   omega
  obtain ⟨⟨d,k⟩,hd⟩:∃ g,findR t q=g:=⟨_,rfl⟩
  rw [hd] at HFI
  simp only at HFI
  rw [hd] at HG1 HUB
  simp only at HG1 HUB
  clear hd
  clear lt0 lt1 lt2 lt3
  refine start_ (n:=13) (S:=fun w'=>w'.heap[w.heap.size]? = some (.cells (fc t A c) 25 (0,0))) (ds:=[11]) (bp 13 0) (by kernel_rfl) rfl rfl (I.out _ (bdrew (Below.refl w1.heap.size w1))).2.2.2.2.2.1 (fun hHeld => ?_)
  refine pA 1 22 (bp 13 2) ?_
  refine pA 2 23 (bp 13 6) ?_
  refine pA 3 24 (bp 13 14) ?_
  refine pA 4 25 (bp 13 30) ?_
  refine pB 5 26 (bp 13 62) ?_ (hy:=by
   intro w'
   go_simp
   rw [if_pos (by omega)])
  refine tA 0 21 (bp 13 63) hHeld ?_ (hy:=by
   rintro w' hs
   have q0:=cell_of (j:=0) hs rfl
   have q1:=cell_of (j:=1) hs rfl
   have q2:=cell_of (j:=2) hs rfl
   have q3:=cell_of (j:=3) hs rfl
   go_simp
   with_reducible rfl)
  refine join_ (σ:=(Option Addr×Nat)×Nat) 2 (bp 13 2047) (fun s=>match s with | ((A1,c1),gd)=>[(27,.tuple #[.agg (fc d A1 c1),.int .i64 k]),(20,.tuple #[.agg (fc d A1 c1),.int .i64 k]),(28,.agg (fc d A1 c1)),(29,.int .i64 k),(8,.pointer (some ⟨gd,0,none⟩))]) (fun s W=>match s with | ((A1,c1),gd)=>Below w1.heap.size w1 W∧w1.heap.size≤gd∧W.heap[gd]? = some (.cells zC 25 (0,0))) ?_ ?_
  rotate_left
  ·intro hc
   refine two_ (i:=6) (j:=10) (Ni:=some 27) (Nj:=some 8) (bp 13 127) (bp 13 1087) rfl rfl rfl rfl (by kernel_rfl) (by decide) (by decide) (fun K hK => ?_) (fun K hK => ?_)
   ·refine gA Tryz.func74 #[.agg (fc t A c),.slice (some pad) q.length cp] ?_
    refine (HFI.out _ (bdrew (Below.refl w1.heap.size w1))).mono ?_
    rintro e w5 ⟨A1,c1,rfl,_,_,hq5⟩
    refine ⟨_,rfl,?_⟩
    refine hK.out _ _ ((I.out _ ((bdrew (Below.refl w1.heap.size w1)).trans hq5)).2.2.2.2.2.1) (fun _ => ?_)
    refine nA 27 ?_
    refine pA 7 20 (bp 13 255) ?_
    refine pA 8 28 (bp 13 511) ?_
    refine pA 9 29 (bp 13 1023) ?_
    refine eA 10 8 (bp 13 2047) (fun K hK => ?_)
    refine vA ?_
    refine hK.out _ _ ((I.out _ (below_alloc ((bdrew (Below.refl w1.heap.size w1)).trans hq5) _)).2.2.2.2.2.1) (fun _ => ?_)
    refine jA (hc ((A1,c1),w5.heap.size) _ (⟨below_alloc ((bdrew (Below.refl w1.heap.size w1)).trans hq5) _,((bdrew (Below.refl w1.heap.size w1)).trans hq5).size,blk_new w5 _⟩))
   ·refine vA ?_
    refine hK.out _ _ ((I.out _ (below_alloc (bdrew (Below.refl w1.heap.size w1)) (.cells zC 25))).2.2.2.2.2.1) (fun _ => ?_)
    refine nA 8 ?_
    refine eA 6 27 (bp 13 1151) (fun K hK => ?_)
    refine gA Tryz.func74 #[.agg (fc t A c),.slice (some pad) q.length cp] ?_
    refine (HFI.out _ (below_alloc (bdrew (Below.refl w1.heap.size w1)) (.cells zC 25))).mono ?_
    rintro e w5 ⟨A1,c1,rfl,_,_,hq5⟩
    refine ⟨_,rfl,?_⟩
    refine hK.out _ _ ((I.out _ ((below_alloc (bdrew (Below.refl w1.heap.size w1)) (.cells zC 25)).trans (hq5.mono (below_alloc (Below.refl w1.drew.heap.size w1.drew) (.cells zC 25)).size))).2.2.2.2.2.1) (fun _ => ?_)
    refine nA 27 ?_
    refine pA 7 20 (bp 13 1279) ?_
    refine pA 8 28 (bp 13 1535) ?_
    refine pA 9 29 (bp 13 2047) ?_
    refine jA (hc ((A1,c1),w1.heap.size) _ (⟨((below_alloc (bdrew (Below.refl w1.heap.size w1)) (.cells zC 25)).trans (hq5.mono (below_alloc (Below.refl w1.drew.heap.size w1.drew) (.cells zC 25)).size)),Nat.le_refl _,(hq5.block _ (blk_lt (blk_new w1.drew (.cells zC 25)))).trans (blk_new w1.drew (.cells zC 25))⟩))
  ·rintro ⟨⟨A1,c1⟩,gd⟩ W hF
   refine uA ?_
   obtain ⟨hbW,hgd,hzz⟩:=hF
   have hHeld:W.heap[w.heap.size]? = some (.cells (fc t A c) 25 (0,0)):=(I.out _ hbW).2.2.2.2.2.1
   refine last_ (i:=11) (N:=none) (bp 13 4095) rfl rfl (by kernel_rfl) (by decide) (fun K hK => ?_)
   obtain ⟨zc0,zc1,zc2,zc3⟩:=c4A hzz
   obtain ⟨zu0,zu1,zu2,zu3⟩:=u4A hzz
   refine sA ?_
   refine hK.out _ _ ?_
   refine pA 12 9 (bp 13 8191) ?_
   refine done_ (by kernel_rfl) ?_
   have hq6:=store4_below hbW (g:=gd) hgd (.string d.name) (.int .u8 d.kind) (.string d.data) (.slice A1 d.files.length c1)
   have hd6:=store4_box hzz (.string d.name) (.int .u8 d.kind) (.string d.data) (.slice A1 d.files.length c1)
   replace I:=Lib.hid (Hd.mv I.out hq6)
   replace I:=Lib.hid (Hd.and I.out (Hd.box (hd6)))
   clear zc0 zc1 zc2 zc3 zu0 zu1 zu2 zu3 hzz hHeld hK hd6
   generalize ((((W.setCell ⟨gd,0,none⟩ (.string d.name)).setCell ⟨gd,1,none⟩ (.int .u8 d.kind)).setCell ⟨gd,2,none⟩ (.string d.data)).setCell ⟨gd,3,none⟩ (.slice A1 d.files.length c1))=W6 at *
   by_cases hk:k=0
   rotate_left
   ·skip
    have HG2:=HG1.out
    rw [if_neg hk] at HG2
    replace HG2:=Lib.hid HG2
    have k1:(k != 0)=true:=by rw [bne_iff_ne];exact hk
    have HZ:=I.out.now.2.2.2.2.1
    have HZF:=Lib.hid (store4_box HZ (.string ⟨#[]⟩) (.int .u8 0) (.string ⟨#[]⟩) (.slice none 0 0))
    have HB9:=Lib.hid (store4_below I.out.now.2.2.2.2.2.2.2 (g:=w.heap.size+2) (by omega) (.string ⟨#[]⟩) (.int .u8 0) (.string ⟨#[]⟩) (.slice none 0 0))
    obtain ⟨z0,z1,z2,z3⟩:=c4A HZ
    obtain ⟨u0,u1,u2,u3⟩:=u4A HZ
    go_wp2_with fail
    refine bodyPost_ret (results_ct rfl _ _ (w.heap.size+2) 25 zC (0,0) _ rfl HZF.out Tryz.underlying25 rfl (by kernel_rfl)) rfl ?_
    rw [← HG2.out]
    exact ⟨none,0,rfl,Nat.le_refl _,fun _ _=>Kd.C_nil FileK _,HB9.out⟩
   ·skip
    subst hk
    have HG2:=HG1.out
    rw [if_pos rfl] at HG2
    replace HG2:=Lib.hid HG2
    by_cases hdk:d.kind=1
    rotate_left
    ·skip
     have HG3:=HG2.out
     rw [if_neg hdk] at HG3
     replace HG3:=Lib.hid HG3
     have k2:(d.kind != 1)=true:=by rw [bne_iff_ne];exact hdk
     obtain ⟨ld0,ld1,ld2,ld3⟩:=c4A I.out.now.1
     have HZ:=I.out.now.2.2.2.2.1
     have HZF:=Lib.hid (store4_box HZ (.string ⟨#[]⟩) (.int .u8 0) (.string ⟨#[]⟩) (.slice none 0 0))
     have HB9:=Lib.hid (store4_below I.out.now.2.2.2.2.2.2.2 (g:=w.heap.size+2) (by omega) (.string ⟨#[]⟩) (.int .u8 0) (.string ⟨#[]⟩) (.slice none 0 0))
     obtain ⟨z0,z1,z2,z3⟩:=c4A HZ
     obtain ⟨u0,u1,u2,u3⟩:=u4A HZ
     go_wp2_with fail
     refine bodyPost_ret (results_ct rfl _ _ (w.heap.size+2) 25 zC (0,0) _ rfl HZF.out Tryz.underlying25 rfl (by kernel_rfl)) rfl ?_
     rw [← HG3.out]
     exact ⟨none,0,rfl,Nat.le_refl _,fun _ _=>Kd.C_nil FileK _,HB9.out⟩
    ·skip
     have HG3:=HG2.out
     rw [if_pos hdk] at HG3
     replace HG3:=Lib.hid HG3
     have k2:(d.kind != 1)=false:=by rw [hdk];rfl
     have HDK:=Lib.hid hdk
     clear hdk
     have hzl:=blk_lt I.out.now.2.2.2.2.1
     obtain ⟨ld0,ld1,ld2,ld3⟩:=c4A I.out.now.1
     obtain ⟨lf0,lf1,lf2,lf3⟩:=c4A I.out.now.2.2.2.2.2.1
     go_wp2_with fail
     clear ld0 ld1 ld2 ld3 lf0 lf1 lf2 lf3
     clear k2
     refine ((show Calls Tryz.prog 5 #[.agg (fc f Af cf)] _ _ from rcopy_file f.bulk f Af cf _ (Nat.le_refl _) (by omega) I.out.now.2.1 hcf)).mono ?_
     rintro e w7 ⟨v,rfl,hR,hq7⟩
     replace I:=Lib.hid (Hd.mv I.out hq7)
     obtain ⟨A3,c3,rfl,hc3,hC3⟩:=Kd.R_reads hR
     clear hC3
     replace I:=Lib.hid (Hd.and I.out (Hd.rows (Kd.R_lower (Kd.R_mono (Kd.R_bound hR) (ok':=fun k=>W6.heap.size≤k∧k<w7.heap.size) fun k hk=>⟨hk.2.1,hk.2.2.1⟩) (Nat.zero_le _))))
     clear hR
     have hxp:=HX.out _ (bstep I.out.now.2.2.2.2.2.2.2.2 I.out.now.2.2.2.2.2.2.2.2.size (below_alloc (Below.refl w7.heap.size w7) (.cells (fc f A3 c3) 25)))
     have wf0:=unfr (blk_new w7 (.cells (fc f A3 c3) 25)) 0
     have wc0:=cell_of (j:=0) (blk_new w7 (.cells (fc f A3 c3) 25)) rfl
     have ha8:=below_alloc (Below.refl w7.heap.size w7) (.cells #[.string n,.int .u8 f.kind,.string f.data,.slice A3 f.files.length c3] 25)
     replace I:=Lib.hid (Hd.mv I.out ha8)
     replace I:=Lib.hid (Hd.and I.out (Hd.box (blk_new w7 (.cells #[.string n,.int .u8 f.kind,.string f.data,.slice A3 f.files.length c3] 25))))
     obtain ⟨lt0,lt1,lt2,lt3⟩:=c4A I.out.now.2.2.2.2.2.2.2.2.1
     obtain ⟨lx20,lx21,lx22,lx23⟩:=c4A I.out.now.1
     go_wp2_with fail
     clear hxp wf0 wc0
     clear lt0 lt1 lt2 lt3 lx20 lx21 lx22 lx23
     generalize (w7.alloc (.cells #[.string n,.int .u8 f.kind,.string f.data,.slice A3 f.files.length c3] 25))=W8 at *
     have hs1:=ha8.size
     refine ((show Calls Tryz.prog 75 #[.agg (fc t A c),.slice (some pad) (q.length+1) cp,.agg #[.string n,.int .u8 f.kind,.string f.data,.slice A3 f.files.length c3],.bool false] _ _ from by rw [← hqn];exact rwith_calls false (nameF f n) A3 c3 (q++[n]) t A c (some pad) cp (fun k=>W6.heap.size≤k∧k<w7.heap.size) _ (by simp) I.out.now.2.2.2.2.2.1 hc (by omega) I.out.now.2.2.2.2.1 (by omega) (by omega) I.out.now.2.1 (fun k h=>by omega))).mono ?_
     rintro e w9 ⟨v,rfl,hR,hq9⟩
     replace I:=Lib.hid (Hd.mv I.out hq9)
     have hwk:=withR_keep false (nameF f n) (q++[n]) t
     obtain ⟨u,hu⟩:∃ u,withR false (nameF f n) (q++[n]) t=u:=⟨_,rfl⟩
     rw [hu] at hR hwk HG3
     obtain ⟨hu1,hu2,hu3⟩:=hwk
     rw [← hu1,← hu2,← hu3]
     have hub:=HUB.out (by trivial)
     rw [hu] at hub
     clear hu hu1 hu2 hu3
     obtain ⟨A4,c4,rfl,hc4,hC4⟩:=Kd.R_reads hR
     clear hC4
     replace I:=Lib.hid (Hd.and I.out (Hd.rows (Kd.R_mono hR (ok':=fun k=>W6.heap.size≤k) fun k hk=>hk.elim (fun h=>h.1) fun h=>by have:=hq7.size;omega)))
     clear hR
     have ha10:=below_alloc (Below.refl w9.heap.size w9) (.cells (fc u A4 c4) 25)
     replace I:=Lib.hid (Hd.mv I.out ha10)
     replace I:=Lib.hid (Hd.and I.out (Hd.box (blk_new w9 (.cells (fc u A4 c4) 25))))
     obtain ⟨lu0,lu1,lu2,lu3⟩:=c4A I.out.now.1
     go_wp2_with fail
     clear lu0 lu1 lu2 lu3
     generalize (w9.alloc (.cells (fc u A4 c4) 25))=W10 at *
     refine ((show Calls Tryz.prog 7 #[.agg (fc u A4 c4)] _ _ from rright_calls u A4 c4 _ (by omega) (Kd.R_reads' I.out.now.2.1).2.2 hc4)).mono ?_
     rintro e w11 ⟨rfl,hq11⟩
     replace I:=Lib.hid (Hd.mv I.out hq11)
     cases hru:rightT u
     ·skip
      have HG4:=HG3.out
      rw [hru,if_neg (by decide)] at HG4
      replace HG4:=Lib.hid HG4
      have HZ:=I.out.now.2.2.2.2.2.2.2.2.1
      have HZF:=Lib.hid (store4_box HZ (.string ⟨#[]⟩) (.int .u8 0) (.string ⟨#[]⟩) (.slice none 0 0))
      have HB9:=Lib.hid (store4_below I.out.now.2.2.2.2.2.2.2.2.2.2.2 (g:=w.heap.size+2) (by omega) (.string ⟨#[]⟩) (.int .u8 0) (.string ⟨#[]⟩) (.slice none 0 0))
      obtain ⟨z0,z1,z2,z3⟩:=c4A HZ
      obtain ⟨u0,u1,u2,u3⟩:=u4A HZ
      go_wp2_with fail
      refine bodyPost_ret (results_ct rfl _ _ (w.heap.size+2) 25 zC (0,0) _ rfl HZF.out Tryz.underlying25 rfl (by kernel_rfl)) rfl ?_
      rw [← HG4.out]
      exact ⟨none,0,rfl,Nat.le_refl _,fun _ _=>Kd.C_nil FileK _,HB9.out⟩
     ·skip
      have HG4:=HG3.out
      rw [if_pos hru] at HG4
      replace HG4:=Lib.hid HG4
      obtain ⟨lu0,lu1,lu2,lu3⟩:=c4A I.out.now.1
      have HRU:=Lib.hid I.out.now.2.1
      have HZ:=I.out.now.2.2.2.2.2.2.2.2.1
      have HZF:=Lib.hid (store4_box HZ (.string u.name) (.int .u8 u.kind) (.string u.data) (.slice A4 u.files.length c4))
      have HB9:=Lib.hid (store4_below I.out.now.2.2.2.2.2.2.2.2.2.2.2 (g:=w.heap.size+2) (by omega) (.string u.name) (.int .u8 u.kind) (.string u.data) (.slice A4 u.files.length c4))
      obtain ⟨z0,z1,z2,z3⟩:=c4A HZ
      obtain ⟨u0,u1,u2,u3⟩:=u4A HZ
      go_wp2_with fail
      refine bodyPost_ret (results_ct rfl _ _ (w.heap.size+2) 25 (fc u A4 c4) (0,0) _ rfl HZF.out Tryz.underlying25 rfl (by kernel_rfl)) rfl ?_
      rw [← HG4.out]
      refine ⟨A4,c4,rfl,hc4,?_,HB9.out⟩
      exact fun W' hW'=>(Kd.R_reads' (Kd.R_step (Kd.R_bound (Kd.R_step HRU.out fun k hk _=>store4_other _ (g:=w.heap.size+2) (by omega) _ _ _ _)) fun k hk hl=>hW' k (by have:=hk.2.1;first | omega | exact hk.1.1.elim (fun h=>h.elim) (fun h=>by omega) | exact hk.1.elim (fun h=>h.elim) (fun h=>by omega) | (have:=hk.1;omega)) hl)).2.2
theorem rget_eq (t:File) (p:List ByteArray):rgetR t p=getR t p:=by
 unfold rgetR getR
 by_cases h:rightT t=true
 ·rw [if_pos h,if_pos h]
  exact (get_findR (right_sort h) p).symm
 ·rw [if_neg h,if_neg h]
theorem rput_eq (t f:File) (q:List ByteArray) (n:ByteArray):rputR t q n f=putR t q n f:=by
 unfold rputR putR
 by_cases h:rightT t=true
 ·rw [if_pos h,if_pos h]
  have hg:=go_findR q t (right_sort h)
  by_cases hz:(findR t q).2=0
  ·rw [if_pos hz] at hg ⊢
   rw [hg]
   simp only
   have hw:=with_put q t (findR t q).1 (nameF f n) (right_sort h) hg
   rw [show (nameF f n).name=n from rfl] at hw
   rw [hw]
  ·rw [if_neg hz] at hg ⊢
   rw [hg]
 ·rw [if_neg h,if_neg h]
theorem rdrop_eq (t:File) (q:List ByteArray) (n:ByteArray):rdropR t (q++[n])=dropR t q n:=by
 unfold rdropR dropR
 by_cases h:rightT t=true
 ·rw [if_pos h,if_pos h,if_neg (by simp)]
  have hg:=go_findR (q++[n]) t (right_sort h)
  by_cases hz:(findR t (q++[n])).2=0
  ·rw [if_pos hz] at hg ⊢
   rw [hg]
   simp only
   obtain ⟨d,h1,h2,h3,h4⟩:=go_split hg
   rw [h1]
   simp only
   have hf:foundB d.files n=true:=by
    unfold foundB
    rw [h3]
    simp [h4]
   rw [with_drop zeroF q t d n (right_sort h) h1 hf]
  ·rw [if_neg hz] at hg ⊢
   rw [hg]
 ·rw [if_neg h,if_neg h]
theorem rdropA_eq (t:File) (p:List ByteArray):rdropR t p=dropA t p:=by
 rcases nil_or_snoc p with rfl | ⟨q,n,rfl⟩
 ·rw [dropA_nil]
  rfl
 ·rw [dropA_snoc,rdrop_eq]
section
variable (t f:File) (A Af:Option Addr) (c cf:Nat) (Ap:Option Addr) (cp:Nat) (p:List ByteArray) (w:World)
theorem rgetS (ht:FileK.C w A t.files.length t.files) (hc:t.files.length≤c) (hbt:t.bulk≤1000000000) (hp:Kd.C Kd.string w Ap p.length p) (hcp:p.length≤cp) (hpl:p.length≤1000000000):Calls Tryz.prog 73 #[.agg (fc t A c),.slice Ap p.length cp] w fun e w'=>AnsS w.heap.size w'.heap.size (getR t p) e w'∧Below w.heap.size w w':=by
 rw [← rget_eq]
 refine (show Calls Tryz.prog 73 #[fileV t A c,.slice Ap p.length cp] w _ from rget_calls t A c Ap cp p w ht hc hbt hp hcp hpl).mono ?_
 rintro e w' ⟨A',c',h1,h2,h3,hb⟩
 exact ⟨⟨A',c',h1,h2,h3⟩,hb⟩
theorem rdropS (ht:FileK.C w A t.files.length t.files) (hc:t.files.length≤c) (hbt:t.bulk≤1000000000) (hp:Kd.C Kd.string w Ap p.length p) (hcp:p.length≤cp) (hpl:p.length≤1000000000):Calls Tryz.prog 52 #[.agg (fc t A c),.slice Ap p.length cp] w fun e w'=>AnsS w.heap.size w'.heap.size (dropA t p) e w'∧Below w.heap.size w w':=by
 rw [← rdropA_eq]
 refine (show Calls Tryz.prog 52 #[fileV t A c,.slice Ap p.length cp] w _ from rdrop_calls t A c Ap cp p w ht hc hbt hp hcp hpl).mono ?_
 rintro e w' ⟨A',c',h1,h2,h3,hb⟩
 exact ⟨⟨A',c',h1,h2,h3⟩,hb⟩
theorem rputS (ht:FileK.C w A t.files.length t.files) (hc:t.files.length≤c) (hbt:t.bulk≤1000000000) (hp:Kd.C Kd.string w Ap p.length p) (hcp:p.length≤cp) (hpl:p.length≤1000000000) (hf:FileK.C w Af f.files.length f.files) (hcf:f.files.length≤cf) (hbf:f.bulk≤1000000000) (hn:∀ n∈p,n.size≤1000000000):Calls Tryz.prog 51 #[.agg (fc t A c),.slice Ap p.length cp,.agg (fc f Af cf)] w fun e w'=>AnsS w.heap.size w'.heap.size (putA t p f) e w'∧Below w.heap.size w w':=by
 rcases nil_or_snoc p with rfl | ⟨q,n,rfl⟩
 ·refine (show Calls Tryz.prog 51 #[fileV t A c,.slice Ap 0 cp,fileV f Af cf] w _ from rput0_calls t f A Af c cf Ap cp w ht hc hbt).mono ?_
  rintro e w' ⟨A',c',h1,h2,h3,hb⟩
  exact ⟨⟨A',c',h1,h2,h3⟩,hb⟩
 ·rw [putA_snoc,← rput_eq]
  have hn1:=hn n (by simp)
  rw [List.length_append,List.length_singleton] at hcp hpl ⊢
  refine (show Calls Tryz.prog 51 #[fileV t A c,.slice Ap (q.length+1) cp,fileV f Af cf] w _ from rput_calls t f A Af c cf Ap cp q n w ht hc hbt hf hcf hbf hn1 hp hcp (by omega)).mono ?_
  rintro e w' ⟨A',c',h1,h2,h3,hb⟩
  exact ⟨⟨A',c',h1,h2,h3⟩,hb⟩
end
end Go.Proofs.YthlcjjhfkldmhaaGreatDoor.G
end
end
