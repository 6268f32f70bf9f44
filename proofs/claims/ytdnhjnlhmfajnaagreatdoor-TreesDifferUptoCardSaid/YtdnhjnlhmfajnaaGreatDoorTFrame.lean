import Derived.Test.YtdnhjnlhmfajnaaGreatDoorTRSame
import Derived.Test.YtdnhjnlhmfajnaaGreatDoorRows
import Derived.WalkKit
import Derived.ProofKit
import Derived.OpenShut
import Derived.JoinedCond
import Derived.Carry
import Derived.SliceStrings
import Derived.Deep.Slices
import Derived.Lib.SmallJoins
set_option linter.unusedVariables false
set_option linter.unusedSimpArgs false
namespace Go.Proofs.YtdnhjnlhmfajnaaGreatDoor.G
open Go.Deep Go.Joins Go.ChangeShapes Go.WideShapes Go.ChangeAt Go.RowKit Go.Proofs.YtdnhjnlhmfajnaaGreatDoorW.PrintWords Go.Proofs.YtdnhjnlhmfajnaaGreatDoorW.PrintLast
set_option linter.unusedVariables false
theorem own:ownKnob Tryz.prog.godebug=none:=by kernel_rfl
theorem trodAll_below {H:Type} {enc:TypeId×Value→H} {P:Program} (hl:laidOutB P=true) {W W':World} (hB:Below W.heap.size W W') :
  ∀ {ts:List TypeId} {vs:List Value} {ds:List (DataW H)} {ps:List MemPlace},(ts.all fun t=>P.readableRec t && decide (t<P.types.size))=true →
   DataW.TrodAll enc P W 0 (fun _=>true) true ts vs ds ps→(∀ x∈ps,x.block<W.heap.size)→DataW.TrodAll enc P W' 0 (fun b=>decide (b<W.heap.size)) true ts vs ds ps
 | [],[],[],ps,_,h,_=>h
 | t :: ts,v :: vs,d :: ds,ps,hr,h,hlt=>by
  obtain ⟨p,q,h1,h2,rfl⟩:=h
  simp only [List.all_cons,Bool.and_eq_true,decide_eq_true_iff] at hr
  exact ⟨p,q,Below.trod hl hr.1.1 hr.1.2 h1 hB (fun x hx=>hlt x (List.mem_append_left _ hx)),trodAll_below hl hB hr.2 h2 (fun x hx=>hlt x (List.mem_append_right _ hx)),rfl⟩
 | [],_ :: _,_,_,_,h,_=>h.elim
 | [],[],_ :: _,_,_,h,_=>h.elim
 | _ :: _,[],_,_,_,h,_=>h.elim
 | _ :: _,_ :: _,[],_,_,h,_=>h.elim
theorem post_true {H:Type} {enc:TypeId×Value→H} {P:Program} {f:Func} {s:ChangeSpec} {apart fresh:Bool} {W W':World} {args:Array Value} {ds gs:List (DataW H)} {before:List MemPlace} {tb:TypeId}
  (hl:laidOutB P=true) (hts:(f.params.toList.all fun t=>P.readableRec t && decide (t<P.types.size))=true) (hrt:f.resultTypes=#[tb]) (htb:P.underlying tb=some .bool) (hv:s.vars=[])
  (hW:DataW.Whole enc P f.params.toList s.vars apart W args.toList ds gs before) (hres:(s.fn H (ds++gs)).results=[.lit (.bool true)]) (hargs:(s.fn H (ds++gs)).args=ds) (hvars:(s.fn H (ds++gs)).vars=[])
  (hB:Below W.heap.size W W'):s.post enc P f apart fresh false false W args (.bool true) W':=by
 have hlt:=hW.lt
 obtain ⟨p,q,hA,hV,hps,hfz,hnd⟩:=hW
 refine ⟨ds,gs,before,[],p,[],⟨p,q,hA,hV,hps,hfz,hnd⟩,?_,?_,?_,hB.frame _,fun h=>by cases h⟩
 ·rw [hres,hrt]
  exact trodAll_cons_mk (shut_bool htb _) trodAll_mk0
 ·rw [hargs]
  exact trodAll_below hl hB hts hA (fun x hx=>hlt x (by rw [hps];exact List.mem_append_left _ hx))
 ·rw [hvars,hv]
  rfl
theorem bulk_le {H:Type} {l:List (DataW H)} (hk:Rows.uptoSmall H l=true):Rows.uptoBulkAll l≤1048576:=of_decide_eq_true hk
theorem choose_files {α:Type} {n:Nat} {p:Nat→α→Prop} (h:∀ i,i<n→∃ x,p i x):∃ l:List α,l.length=n∧∀ i x,l[i]? = some x→p i x:=by
 induction n with
 | zero=>exact ⟨[],rfl,fun i x hx=>by simp at hx⟩
 | succ n ih =>
  obtain ⟨l,hl,hp⟩:=ih fun i hi=>h i (by omega)
  obtain ⟨x,hx⟩:=h n (by omega)
  refine ⟨l++[x],by simp [hl],fun i y hy => ?_⟩
  rw [List.getElem?_append] at hy
  split at hy
  ·exact hp i y hy
  ·rename_i hge
   have h0:i=n:=by
    have h1:=(List.getElem?_eq_some_iff.1 hy).1
    simp at h1
    omega
   subst h0
   rw [hl] at hy
   simp at hy
   subst hy
   exact hx
theorem bulk_files {H:Type}:∀ (l:List File) (ds:List (DataW H)),l.length=ds.length→(∀ (i:Nat) (x:File) (d:DataW H),l[i]? = some x→ds[i]? = some d→x.bulk≤Rows.uptoBulk d)→bulkL l≤Rows.uptoBulkAll ds
 | [],ds,_,_=>Nat.zero_le _
 | x :: r,[],h,_=>by simp at h
 | x :: r,d :: ds,hl,h=>by
  have h0:x.bulk≤Rows.uptoBulk d:=h 0 x d rfl rfl
  have hr:=bulk_files r ds (by simpa using hl) fun i y e hy he=>h (i+1) y e (by simpa using hy) (by simpa using he)
  simp only [bulkL,List.map_cons,List.sum_cons,Rows.uptoBulkAll] at hr ⊢
  omega
theorem list4 {α:Type} {cs:List α} (h:cs.length=4):∃ c0 c1 c2 c3,cs=[c0,c1,c2,c3]:=by
 match cs,h with
 | [c0,c1,c2,c3],_=>exact ⟨c0,c1,c2,c3,rfl⟩
set_option maxRecDepth 100000 in
theorem file_of_reads {H:Type} {enc:TypeId×Value→H} {W:World} {m:Nat} {c0 c1 c2 c3:Value} {y0 y1 y2 y3:DataW H×List MemPlace}
  (ih:∀ v d ps,DataW.trod enc Tryz.prog W 0 (fun _=>true) true m 23 [v]=some (d,ps)→∃ A c l,v=.slice A (List.length l) c∧l.length≤c∧FileK.C W A l.length l∧bulkL l+1≤Rows.uptoBulk d)
  (h0:DataW.trod enc Tryz.prog W 0 (fun _=>true) true m 9 [c0]=some y0) (h1:DataW.trod enc Tryz.prog W 0 (fun _=>true) true m 22 [c1]=some y1)
  (h2:DataW.trod enc Tryz.prog W 0 (fun _=>true) true m 9 [c2]=some y2) (h3:DataW.trod enc Tryz.prog W 0 (fun _=>true) true m 23 [c3]=some y3) :
  ∃ (x:File) (A:Option Addr) (c:Nat),[c0,c1,c2,c3]=[.string x.name,.int .u8 x.kind,.string x.data,.slice A x.files.length c]∧x.files.length≤c∧FileK.C W A x.files.length x.files∧x.bulk≤Rows.uptoBulk (.agg [y0.1,y1.1,y2.1,y3.1]):=by
 obtain ⟨s0,e0,rfl,_⟩:=DataW.trod_string Tryz.underlying9 h0
 obtain ⟨n1,e1,rfl,_⟩:=DataW.trod_int Tryz.underlying22 h1
 obtain ⟨s2,e2,rfl,_⟩:=DataW.trod_string Tryz.underlying9 h2
 obtain ⟨A,c,l,rfl,hc,hC,hb⟩:=ih c3 y3.1 y3.2 h3
 obtain rfl:=(List.cons.inj e0).1
 obtain rfl:=(List.cons.inj e1).1
 obtain rfl:=(List.cons.inj e2).1
 refine ⟨⟨s0,n1,s2,l⟩,A,c,rfl,hc,hC,?_⟩
 have k0:s0.data.toList.length=s0.size:=(Lib.size_eq s0).symm
 have k2:s2.data.toList.length=s2.size:=(Lib.size_eq s2).symm
 have hbe:=bulk_eq ⟨s0,n1,s2,l⟩
 simp only [Rows.uptoBulk,Rows.uptoBulkAll] at hbe ⊢
 omega
set_option maxRecDepth 100000 in
theorem files_of_trod {H:Type} {enc:TypeId×Value→H} {W:World}:∀ (N n:Nat),n≤N→∀ v d ps,DataW.trod enc Tryz.prog W 0 (fun _=>true) true n 23 [v]=some (d,ps) →
  ∃ A c l,v=.slice A (List.length l) c∧l.length≤c∧FileK.C W A l.length l∧bulkL l+1≤Rows.uptoBulk d:=by
 intro N
 induction N with
 | zero =>
  intro n hn v d ps h
  obtain rfl:n=0:=by omega
  simp [DataW.trod] at h
 | succ N ih =>
 intro n hn v d ps h
 rcases DataW.trod_slice Tryz.underlying23 h with ⟨hcs,hx⟩ | ⟨a,len,cap,elems,rest,n',hn',hcs,hx,hb,hl,hm,hlen,hel,hsp,hns⟩
 ·obtain rfl:v=_:=(List.cons.inj hcs).1
  simp only [Prod.mk.injEq] at hx
  obtain ⟨rfl,rfl⟩:=hx
  exact ⟨none,0,[],rfl,Nat.le_refl _,⟨rfl,by simp,fun h=>absurd h (by simp)⟩,by simp [bulkL,Rows.uptoBulk]⟩
 ·obtain rfl:v=_:=(List.cons.inj hcs).1
  simp only [Prod.mk.injEq] at hx
  obtain ⟨rfl,rfl⟩:=hx
  have hsz:Tryz.prog.cellsOf 25=4:=by kernel_rfl
  obtain ⟨l,hll,hp⟩:=choose_files (n:=len) (p:=fun i (x:File)=>∃ (cs:List Value) (A:Option Addr) (c:Nat) (y:DataW H×List MemPlace),W.cells? 0 (a.add (i * 4)) 4=some cs∧elems[i]? = some y∧cs=[.string x.name,.int .u8 x.kind,.string x.data,.slice A x.files.length c]∧x.files.length≤c∧FileK.C W A x.files.length x.files∧x.bulk≤Rows.uptoBulk y.1) fun i hi=>by
   have he:=hel i hi
   rw [List.getElem?_eq_getElem (by omega),hsz,Option.bind_eq_some_iff] at he
   obtain ⟨cs,hcs,hy⟩:=he
   obtain ⟨xs,m,hm',hxe,hl4,hlen4,hf⟩:=DataW.trod_struct Tryz.underlying25 hy
   rw [hsz] at hl4
   obtain ⟨c0,c1,c2,c3,rfl⟩:=list4 hl4
   match xs,hlen4 with
   | [y0,y1,y2,y3],_ =>
    have g0:=hf 0 _ rfl
    have g1:=hf 1 _ rfl
    have g2:=hf 2 _ rfl
    have g3:=hf 3 _ rfl
    obtain ⟨x,A,c,e,h4,h5,h6⟩:=file_of_reads (c0:=c0) (c1:=c1) (c2:=c2) (c3:=c3) (y0:=y0) (y1:=y1) (y2:=y2) (y3:=y3) (m:=m) (fun v d ps h=>ih m (by omega) v d ps h) g0 g1 g2 g3
    refine ⟨x,_,A,c,elems[i],hcs,List.getElem?_eq_getElem (by omega),e,h4,h5,?_⟩
    rw [hxe]
    exact h6
  refine ⟨some a,cap,l,by rw [hll],by omega,⟨rfl,by simp only [maxLen] at hm;omega,fun _=>⟨a,rfl,fun j x hj => ?_⟩⟩,?_⟩
  ·obtain ⟨cs,A,c,y,h1,h2,h3,h4,h5,h6⟩:=hp j x hj
   subst h3
   refine ⟨[.string x.name,.int .u8 x.kind,.string x.data,.slice A x.files.length c],rfl,file_mk W x h4 h5,fun i u hu => ?_⟩
   obtain ⟨_,_,hc2⟩:=World.cells?_some h1
   have hi:i<4:=(List.getElem?_eq_some_iff.1 hu).1
   have h9:=hc2 i hi
   rw [hu] at h9
   rw [← h9]
   exact congrArg W.cell? (Addr.add_add a (j * 4) i).symm
  ·have:=bulk_files l (elems.map (·.1)) (by rw [hll,List.length_map,hlen]) fun i x d hx hd=>by
    obtain ⟨cs,A,c,y,h1,h2,h3,h4,h5,h6⟩:=hp i x hx
    rw [List.getElem?_map,h2] at hd
    simp only [Option.map_some,Option.some.injEq] at hd
    rw [← hd]
    exact h6
   simp only [Rows.uptoBulk]
   omega
set_option maxRecDepth 100000 in
theorem open_tree {H:Type} {enc:TypeId×Value→H} {W:World} {base:Nat} {v:Value} {d:DataW H} {ps:List MemPlace}
  (hv:Value.okWide Tryz.prog W .any base 25 v) (h:DataW.Trod enc Tryz.prog W 0 (fun _=>true) true 25 v d ps) :
  ∃ (f:File) (A:Option Addr) (c:Nat),v=fileV f A c∧f.files.length≤c∧FileK.C W A f.files.length f.files∧f.bulk≤Rows.uptoBulk d:=by
 obtain ⟨v0,v1,v2,v3,y0,y1,y2,y3,n,rfl,rfl,rfl,h0,h1,h2,h3⟩:=open_agg4 Tryz.underlying25 (by kernel_rfl) (by kernel_rfl) hv h
 obtain ⟨x,A,c,e,h4,h5,h6⟩:=file_of_reads (fun v d ps h=>files_of_trod n n (Nat.le_refl _) v d ps h) h0 h1 h2 h3
 injection e with e0 e
 injection e with e1 e
 injection e with e2 e
 injection e with e3 e
 subst e0
 subst e1
 subst e2
 subst e3
 exact ⟨x,A,c,rfl,h4,h5,h6⟩
end Go.Proofs.YtdnhjnlhmfajnaaGreatDoor.G
