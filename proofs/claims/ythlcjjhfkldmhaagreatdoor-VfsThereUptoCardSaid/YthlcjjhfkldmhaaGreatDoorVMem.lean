import Derived.Test.YthlcjjhfkldmhaaGreatDoorKit
import Derived.Test.YthlcjjhfkldmhaaGreatDoorSq
import Derived.Test.YthlcjjhfkldmhaaGreatDoorTStore
import Derived.Test.YthlcjjhfkldmhaaGreatDoorTReadA
import Derived.Laws.CopyRow
import Derived.Shelf.Spec.SlicesInsertGrow
import Derived.Deep.RegionLaw
import Derived.Test.YthlcjjhfkldmhaaGreatDoorVWalkS
import Derived.Test.YthlcjjhfkldmhaaGreatDoorTEachX
import Derived.Test.YthlcjjhfkldmhaaGreatDoorTPathK
import Derived.Test.YthlcjjhfkldmhaaGreatDoorVHd
set_option linter.unusedVariables false
set_option linter.unusedSimpArgs false
section
namespace Go.Proofs.YthlcjjhfkldmhaaGreatDoor.G
open Go.RowKit Go.Lib Go.Proofs.YthlcjjhfkldmhaaGreatDoorW.PrintWords Go.Proofs.YthlcjjhfkldmhaaGreatDoorW.PrintLast
set_option linter.unusedVariables false
set_option linter.unusedSimpArgs false
section
theorem LT_cut (B:Nat):∀ (l:List File) (w:World) (inner:List Value) (bs:List Nat) (i:Nat),LT B l w inner bs→∃ b1 b2,bs=b1++b2∧LT B (l.take i) w (inner.take (i * 4)) b1∧LT B (l.drop i) w (inner.drop (i * 4)) b2
 | l,w,inner,bs,0,h=>⟨[],bs,rfl,by rw [Nat.zero_mul,List.take_zero,List.take_zero,LT];exact ⟨rfl,rfl⟩,by rw [Nat.zero_mul];exact h⟩
 | [],w,inner,bs,i+1,h=>by
  rw [LT] at h
  obtain ⟨rfl,rfl⟩:=h
  refine ⟨[],[],rfl,?_,?_⟩
  ·rw [List.take_nil,List.take_nil,LT];exact ⟨rfl,rfl⟩
  ·rw [List.drop_nil,List.drop_nil,LT];exact ⟨rfl,rfl⟩
 | x :: l,w,inner,bs,i+1,h=>by
  rw [LT] at h
  obtain ⟨v,bx,br,rest,rfl,rfl,h3,h4⟩:=h
  obtain ⟨b1,b2,rfl,h5,h6⟩:=LT_cut B l w rest br i h4
  refine ⟨bx++b1,b2,by rw [List.append_assoc],?_,?_⟩
  ·rw [show (i+1) * 4=i * 4+4 by omega]
   show LT B (x :: l.take i) w (.string x.name :: .int .u8 x.kind :: .string x.data :: v :: rest.take (i * 4)) _
   rw [LT]
   exact ⟨v,bx,b1,_,rfl,rfl,h3,h5⟩
  ·rw [show (i+1) * 4=i * 4+4 by omega]
   exact h6
theorem LT_app (B:Nat):∀ (l1 l2:List File) (w:World) (in1 in2:List Value) (b1 b2:List Nat),LT B l1 w in1 b1→LT B l2 w in2 b2→LT B (l1++l2) w (in1++in2) (b1++b2)
 | [],l2,w,in1,in2,b1,b2,h,h2=>by
  rw [LT] at h
  obtain ⟨rfl,rfl⟩:=h
  exact h2
 | x :: l1,l2,w,in1,in2,b1,b2,h,h2=>by
  rw [LT] at h
  obtain ⟨v,bx,br,rest,rfl,rfl,h3,h4⟩:=h
  have h5:=LT_app B l1 l2 w rest in2 br b2 h4 h2
  show LT B (x :: (l1++l2)) w (.string x.name :: .int .u8 x.kind :: .string x.data :: v :: (rest++in2)) _
  rw [LT]
  exact ⟨v,bx,br++b2,_,rfl,by rw [List.append_assoc],h3,h5⟩
theorem LT_one {B:Nat} {z:File} {w:World} {v:Value} {bz:List Nat} (h:FT B z w v bz):LT B [z] w [.string z.name,.int .u8 z.kind,.string z.data,v] bz:=by
 rw [LT]
 exact ⟨v,bz,[],[],rfl,by simp,h,by rw [LT];exact ⟨rfl,rfl⟩⟩
theorem FT_row {B g:Nat} {d:File} {w:World} {v:Value} {inner:List Value} {bs:List Nat} (hv:v.ownBlock=some g) (ho:w.ownsRow B 25 4 v d.files.length inner) (hL:LT B d.files w inner bs):FT B d w v (g :: bs):=by
 rw [FT_eq]
 exact .inr ⟨g,inner,bs,hv,rfl,ho,hL⟩
theorem FT_below {B:Nat} {x:File} {w w':World} {v:Value} {bl:List Nat} (h:FT B x w v bl) (hb:Below w.heap.size w w'):FT B x w' v bl:=FT_move B x w w' v bl h fun k hk=>hb.block k (FT_lt B x w v bl h k hk).1
theorem own_lower {B B':Nat} {w:World} {v:Value} {n:Nat} {xs:List Value} {e m:Nat} (h:w.ownsRow B e m v n xs) (hB:B'≤B):w.ownsRow B' e m v n xs:=by
 refine ⟨h.1,h.2.imp id ?_⟩
 rintro ⟨g,cap,cur,h1,h2,h3⟩
 exact ⟨g,cap,cur,h1,Nat.le_trans hB h2,h3⟩
mutual
theorem FT_lower {B B':Nat} (hB:B'≤B):∀ (x:File) (w:World) (v:Value) (bl:List Nat),FT B x w v bl→FT B' x w v bl
 | ⟨_,_,_,l⟩,w,v,bl,h=>by
  rw [FT] at h ⊢
  rcases h with h | ⟨g,inner,bs,hv,rfl,ho,hl⟩
  ·exact .inl h
  ·exact .inr ⟨g,inner,bs,hv,rfl,own_lower ho hB,LT_lower hB l w inner bs hl⟩
theorem LT_lower {B B':Nat} (hB:B'≤B):∀ (l:List File) (w:World) (inner:List Value) (bs:List Nat),LT B l w inner bs→LT B' l w inner bs
 | [],w,inner,bs,h=>by rw [LT] at h ⊢;exact h
 | x :: l,w,inner,bs,h=>by
  rw [LT] at h ⊢
  obtain ⟨v,bx,br,rest,h1,rfl,h3,h4⟩:=h
  exact ⟨v,bx,br,rest,h1,rfl,FT_lower hB x w v bx h3,LT_lower hB l w rest br h4⟩
end
theorem LT_ins {B:Nat} {l:List File} {w:World} {inner:List Value} {bs bz:List Nat} {z:File} {vz:Value} (i:Nat) (hL:LT B l w inner bs) (hz:FT B z w vz bz) :
  ∃ b1 b2,bs=b1++b2∧LT B (l.take i++z :: l.drop i) w (inner.take (i * 4)++[.string z.name,.int .u8 z.kind,.string z.data,vz]++inner.drop (i * 4)) (b1++(bz++b2)):=by
 obtain ⟨b1,b2,rfl,h1,h2⟩:=LT_cut B l w inner bs i hL
 refine ⟨b1,b2,rfl,?_⟩
 rw [List.append_assoc]
 exact LT_app B _ _ w _ _ _ _ h1 (LT_app B [z] _ w _ _ _ _ (LT_one hz) h2)
theorem LT_set {B:Nat} {l:List File} {w:World} {inner:List Value} {bs bz:List Nat} {z:File} {vz:Value} (i:Nat) (hL:LT B l w inner bs) (hz:FT B z w vz bz) :
  ∃ b1 b2 b3,bs=b1++(b2++b3)∧LT B (l.take i++z :: l.drop (i+1)) w (inner.take (i * 4)++[.string z.name,.int .u8 z.kind,.string z.data,vz]++inner.drop ((i+1) * 4)) (b1++(bz++b3)):=by
 obtain ⟨b1,b4,rfl,h1,h2⟩:=LT_cut B l w inner bs i hL
 obtain ⟨b2,b3,rfl,_,h3⟩:=LT_cut B _ w _ _ 1 h2
 refine ⟨b1,b2,b3,rfl,?_⟩
 rw [List.append_assoc]
 rw [List.drop_drop,List.drop_drop,show i * 4+1 * 4=(i+1) * 4 by omega] at h3
 exact LT_app B _ _ w _ _ _ _ h1 (LT_app B [z] _ w _ _ _ _ (LT_one hz) h3)
theorem LT_del {B:Nat} {l:List File} {w:World} {inner:List Value} {bs:List Nat} (i:Nat) (hL:LT B l w inner bs) :
  ∃ b1 b2 b3,bs=b1++(b2++b3)∧LT B (l.take i++l.drop (i+1)) w (inner.take (i * 4)++inner.drop ((i+1) * 4)) (b1++b3):=by
 obtain ⟨b1,b4,rfl,h1,h2⟩:=LT_cut B l w inner bs i hL
 obtain ⟨b2,b3,rfl,_,h3⟩:=LT_cut B _ w _ _ 1 h2
 refine ⟨b1,b2,b3,rfl,?_⟩
 rw [List.drop_drop,List.drop_drop,show i * 4+1 * 4=(i+1) * 4 by omega] at h3
 exact LT_app B _ _ w _ _ _ _ h1 h3
theorem nodup_mid {b1 b2 b3 bz:List Nat} {g:Nat} (h:(b1++(b2++b3)).Nodup) (hz:bz.Nodup) (hd:∀ k∈bz,k ∉ b1++(b2++b3)) (hg:g ∉ b1++(b2++b3)) (hgz:g ∉ bz):(g :: (b1++(bz++b3))).Nodup :=
 nodup_swap (List.nodup_cons.2 ⟨hg,h⟩) hz fun k hk=>.inr fun e=>by
  rcases List.mem_cons.1 e with rfl | e
  ·exact hgz hk
  ·exact hd k hk e
structure HeldC (tb B:Nat) (t:File) (v:Value) (bl:List Nat) (w:World):Prop where
 box:w.heap[tb]? = some (.cells #[.string t.name,.int .u8 t.kind,.string t.data,v] 25 (0,0))
 ft:FT B t w v bl
 nd:bl.Nodup
 off:∀ k∈bl,k≠tb
theorem HeldC.below {tb B:Nat} {t:File} {v:Value} {bl:List Nat} {w w':World} (h:HeldC tb B t v bl w) (hb:Below w.heap.size w w'):HeldC tb B t v bl w' :=
 ⟨(hb.block tb (blk_lt h.box)).trans h.box,FT_below h.ft hb,h.nd,h.off⟩
theorem HeldC.at {tb B:Nat} {t:File} {v:Value} {bl:List Nat} {w:World} (h:HeldC tb B t v bl w):∃ A c,v=.slice A t.files.length c∧FileAt w ⟨tb,0,none⟩ t A c:=by
 obtain ⟨A,c,rfl,hc,hC⟩:=FT_reads B t w v bl h.ft
 exact ⟨A,c,rfl,cell_of h.box rfl,cell_of h.box rfl,cell_of h.box rfl,cell_of h.box rfl,hc,hC⟩
theorem place {tb B:Nat} {t d:File} {v:Value} {bl:List Nat} {W:World} {q:List ByteArray} {ad':Addr} (h:HeldC tb B t v bl W) (hr:Reach W ⟨tb,0,none⟩ t q ad' d) :
  ∃ (g o:Nat) (v':Value) (inner:List Value) (bs:List Nat),ad'=⟨g,o,none⟩∧W.cell? ⟨g,o+3,none⟩=some v'∧(∃ cs,W.heap[g]? = some (.cells cs 25 (0,0)))∧(g=tb∨g∈bl)∧W.ownsRow B 25 4 v' d.files.length inner∧LT B d.files W inner bs∧bs.Nodup∧(∀ k∈bs,k∈bl∧k≠g∧k≠tb∧v'.ownBlock≠some k)∧(∀ k,v'.ownBlock=some k→k∈bl∧k≠g∧k≠tb) ∧
   ∀ (W':World) (v2:Value) (l':List File) (by':List Nat),(∀ k,k=tb∨k∈bl→k≠g→k ∉ bs→v'.ownBlock≠some k→W'.heap[k]? = W.heap[k]?)→W'.heap[g]? = (W.setCell ⟨g,o+3,none⟩ v2).heap[g]? →
    FT B {d with files:=l'} W' v2 by'→by'.Nodup→(∀ k∈by',k∈bs∨v'.ownBlock=some k∨(k ∉ bl∧k≠tb)) →
    ∃ v3 bl2,HeldC tb B (putP t q {d with files:=l'}) v3 bl2 W'∧∀ k∈bl2,k∈bl∨k∈by':=by
 have hlt:=FT_lt B t W v bl h.ft
 have htb:=h.off
 cases q with
 | nil =>
  obtain ⟨rfl,rfl⟩:=hr
  obtain ⟨inner,bs,ho,hL,hbn,hbs,hvb⟩:=FT_own h.ft h.nd
  refine ⟨tb,0,v,inner,bs,rfl,cell_of h.box rfl,⟨_,h.box⟩,.inl rfl,ho,hL,hbn,fun k hk=>⟨(hbs k hk).1,htb k (hbs k hk).1,htb k (hbs k hk).1,(hbs k hk).2⟩,fun k hk=>⟨hvb k hk,htb k (hvb k hk),htb k (hvb k hk)⟩,fun W' v2 l' by' hO hg hF hN hsub => ?_⟩
  refine ⟨v2,by',⟨?_,by rw [putP];exact hF,hN,fun k hk => ?_⟩,fun k hk=>.inr hk⟩
  ·rw [hg,putP]
   exact blk_put (cs:=#[.string d.name,.int .u8 d.kind,.string d.data,v]) h.box 3 _ rfl
  ·rcases hsub k hk with e | e | e
   ·exact htb k (hbs k e).1
   ·exact htb k (hvb k e)
   ·exact e.2
 | cons n q =>
  obtain ⟨g,o,v',by_,rfl,hgb,hc,hF,hby,hbn,hT⟩:=focus B W q n t ⟨tb,0,none⟩ ad' d v bl (cell_of h.box rfl) h.ft h.nd hr
  obtain ⟨inner,bs,ho,hL,hbsn,hbs,hvb⟩:=FT_own hF hbn
  refine ⟨g,o,v',inner,bs,rfl,hc,FT_cells B t W v bl h.ft g hgb,.inr hgb,ho,hL,hbsn,fun k hk=>⟨(hby k (hbs k hk).1).1,(hby k (hbs k hk).1).2,htb k (hby k (hbs k hk).1).1,(hbs k hk).2⟩,fun k hk=>⟨(hby k (hvb k hk)).1,(hby k (hvb k hk)).2,htb k (hby k (hvb k hk)).1⟩,fun W' v2 l' by' hO hg hF2 hN2 hsub => ?_⟩
  obtain ⟨bl',hF',hn',hs'⟩:=hT W' v2 {d with files:=l'} by' (fun k hk h1 h3=>hO k (.inr hk) h1 (fun e=>h3 (hbs k e).1) (fun e=>h3 (hvb k e))) hg hF2 rfl rfl rfl hN2 (fun k hk=>by
   rcases hsub k hk with e | e | e
   ·exact .inl (hbs k e).1
   ·exact .inl (hvb _ e)
   ·exact .inr e.1)
  obtain ⟨k1,k2,k3⟩:=putP_keep t n q {d with files:=l'}
  refine ⟨v,bl',⟨?_,hF',hn',fun k hk => ?_⟩,fun k hk => ?_⟩
  ·rw [k1,k2,k3]
   exact (hO tb (.inl rfl) (fun e=>htb g hgb e.symm) (fun e=>htb tb (hby tb (hbs tb e).1).1 rfl) (fun e=>htb tb (hby tb (hvb tb e)).1 rfl)).trans h.box
  ·rcases hs' k hk with hk | hk
   ·exact htb k hk
   ·rcases hsub k hk with e | e | e
    ·exact htb k (hby k (hbs k e).1).1
    ·exact htb k (hby _ (hvb _ e)).1
    ·exact e.2
  ·exact hs' k hk
theorem turnC {tb B:Nat} {t d:File} {v:Value} {bl:List Nat} {W:World} {q:List ByteArray} {ad':Addr} (h:HeldC tb B t v bl W) (hr:Reach W ⟨tb,0,none⟩ t q ad' d) :
  ∃ (g o:Nat) (v':Value) (inner:List Value) (bs:List Nat),ad'=⟨g,o,none⟩∧W.cell? ⟨g,o+3,none⟩=some v'∧(∃ cs,W.heap[g]? = some (.cells cs 25 (0,0)))∧(g=tb∨g∈bl)∧W.ownsRow B 25 4 v' d.files.length inner∧LT B d.files W inner bs∧bs.Nodup∧(∀ k∈bs,k∈bl)∧(∀ k,v'.ownBlock=some k→k∈bl∧k≠g∧k≠tb) ∧
   ∀ (W':World) (v2:Value) (l':List File) (inner':List Value) (b1 b2 b3 bz:List Nat) (g2:Nat),LT B l' W inner' (b1++(bz++b3))→bs=b1++(b2++b3)→bz.Nodup→(∀ k∈bz,k≠tb∧k ∉ bl∧k<W.heap.size) →
    (∀ k,k=tb∨k∈bl∨k∈bz→k≠g→v'.ownBlock≠some k→W'.heap[k]? = W.heap[k]?)→W'.heap[g]? = (W.setCell ⟨g,o+3,none⟩ v2).heap[g]? →
    W'.ownsRow B 25 4 v2 l'.length inner'→v2.ownBlock=some g2→(v'.ownBlock=some g2∨W.heap.size≤g2) →
    ∃ v3 bl2,HeldC tb B (putP t q {d with files:=l'}) v3 bl2 W'∧∀ k∈bl2,k∈bl∨k∈bz∨W.heap.size≤k:=by
 obtain ⟨g,o,v',inner,bs,had,hc,hgc,hgm,ho,hL,hN,hbs,hvb,hP⟩:=place h hr
 refine ⟨g,o,v',inner,bs,had,hc,hgc,hgm,ho,hL,hN,fun k hk=>(hbs k hk).1,hvb,fun W' v2 l' inner' b1 b2 b3 bz g2 hL' hbb hzN hz hO hg ho' hg2 hor => ?_⟩
 have htl:tb<W.heap.size:=blk_lt h.box
 have hsz:=fun k hk=>(FT_lt B t W v bl h.ft k hk).1
 have hgz:∀ k∈bz,k≠g:=fun k hk e=>by
  rcases hgm with e2 | e2
  ·exact (hz k hk).1 (e.trans e2)
  ·exact (hz k hk).2.1 (e ▸ e2)
 have hg2bs:g2 ∉ bs:=fun hk=>by
  rcases hor with e | e
  ·exact (hbs g2 hk).2.2.2 e
  ·have:=hsz g2 (hbs g2 hk).1
   omega
 have hg2z:g2 ∉ bz:=fun hk=>by
  rcases hor with e | e
  ·exact (hz g2 hk).2.1 (hvb g2 e).1
  ·have:=(hz g2 hk).2.2
   omega
 have hm:∀ k∈b1++(bz++b3),W'.heap[k]? = W.heap[k]? := fun k hk=>by
  have hk2:k∈bs∨k∈bz:=by
   rw [hbb]
   simp only [List.mem_append] at hk ⊢
   rcases hk with hk | hk | hk
   ·exact .inl (.inl hk)
   ·exact .inr hk
   ·exact .inl (.inr (.inr hk))
  rcases hk2 with hk2 | hk2
  ·exact hO k (.inr (.inl (hbs k hk2).1)) (hbs k hk2).2.1 (hbs k hk2).2.2.2
  ·exact hO k (.inr (.inr hk2)) (hgz k hk2) (fun e=>(hz k hk2).2.1 (hvb k e).1)
 obtain ⟨v3,bl2,hH,hs⟩:=hP W' v2 l' (g2 :: (b1++(bz++b3))) (fun k hk h1 h2 h3=>hO k (hk.imp id .inl) h1 h3) hg (FT_row (d:={d with files:=l'}) hg2 ho' (LT_move B l' W W' inner' _ hL' hm)) (nodup_mid (b2:=b2) (hbb ▸ hN) hzN (fun k hk e=>(hz k hk).2.1 (hbs k (hbb ▸ e)).1) (hbb ▸ hg2bs) hg2z) (fun k hk=>by
  rcases List.mem_cons.1 hk with rfl | hk
  ·rcases hor with e | e
   ·exact .inr (.inl e)
   ·exact .inr (.inr ⟨fun e2=>by have:=hsz k e2;omega,by omega⟩)
  ·rcases List.mem_append.1 hk with hk | hk
   ·exact .inl (by rw [hbb];simp [hk])
   ·rcases List.mem_append.1 hk with hk | hk
    ·exact .inr (.inr ⟨(hz k hk).2.1,(hz k hk).1⟩)
    ·exact .inl (by rw [hbb];simp [hk]))
 refine ⟨v3,bl2,hH,fun k hk => ?_⟩
 rcases hs k hk with e | e
 ·exact .inl e
 ·rcases List.mem_cons.1 e with rfl | e
  ·rcases hor with e | e
   ·exact .inl (hvb k e).1
   ·exact .inr (.inr e)
  ·rcases List.mem_append.1 e with e | e
   ·exact .inl (hbs k (by rw [hbb];simp [e])).1
   ·rcases List.mem_append.1 e with e | e
    ·exact .inr (.inl e)
    ·exact .inl (hbs k (by rw [hbb];simp [e])).1
theorem setCell_id {W:World} {b o:Nat} {v:Value} {k:Nat} (h:W.cell? ⟨b,o,none⟩=some v):(W.setCell ⟨b,o,none⟩ v).heap[k]? = W.heap[k]? := by
 by_cases hk:k=b
 ·subst hk
  unfold World.cell? at h
  simp only [World.setCell,Array.getElem?_modify,if_true]
  cases hh:W.heap[k]? with
  | none=>rfl
  | some x =>
   rw [hh] at h
   cases x with
   | cells cs t fr =>
    simp only [Option.isSome_none,Bool.false_eq_true,if_false] at h
    simp only [Option.map_some,Option.isSome_none,Bool.false_eq_true,if_false]
    have hset:cs.setIfInBounds o v=cs:=by
     apply Array.ext_getElem?
     intro j
     rw [Array.getElem?_setIfInBounds]
     split
     ·rename_i e
      subst e
      split
      ·exact h.symm
      ·rename_i hlt
       rw [Array.getElem?_eq_none (by omega)]
     ·rfl
    rw [hset]
   | _=>cases h
 ·exact Below.heap_setCell _ _ _ _ hk
theorem LT_one' {B:Nat}:∀ (l:List File) (w:World) (inner:List Value) (bs:List Nat),LT B l w inner bs→∀ u∈inner,u.oneCell'=true
 | [],w,inner,bs,h=>by
  rw [LT] at h
  obtain ⟨rfl,rfl⟩:=h
  intro u hu;cases hu
 | x :: l,w,inner,bs,h=>by
  rw [LT] at h
  obtain ⟨v,bx,br,rest,rfl,rfl,h3,h4⟩:=h
  obtain ⟨A,c,rfl,_,_⟩:=FT_reads B x w v bx h3
  intro u hu
  simp only [List.mem_cons] at hu
  rcases hu with rfl | rfl | rfl | rfl | hu
  ·rfl
  ·rfl
  ·rfl
  ·rfl
  ·exact LT_one' l w rest br h4 u hu
end
section
theorem run_copy_rows {P:Program} (w:World) (dT sT ty elem:TypeId) (g o dLen dCap:Nat) (a:Addr) (sLen sCap n m:Nat) (cur:Array Value) (t:TypeId) (cs:List Value)
  (hu:P.underlying dT=some (.slice elem)) (hs:(P.info? elem).map (·.size)=some m)
  (hg:w.heap[g]? = some (.cells cur t (0,0))) (hn:n=Nat.min sLen dLen) (hl:cs.length=n * m)
  (hsrc:∀ j v,cs[j]? = some v→w.cell? (a.add j)=some v) (hfit:o+cs.length≤cur.size) (h1:∀ v∈cs,v.oneCell'=true) :
  (Builtin.copy_ #[dT,sT] ty #[.slice (some ⟨g,o,none⟩) dLen dCap,.slice (some a) sLen sCap]).run P w =
   .ok (goInt n) (w.setRow g (cur.toList.take o++cs++cur.toList.drop (o+cs.length)).toArray):=by
 have hst:=run_storeCells_at P g o t cs 0 cur w hg (by simpa using hfit) h1
 cases hq:P.info? elem with
 | none=>simp [hq] at hs
 | some i =>
  have hi:i.size=m:=by simpa [hq] using hs
  have hf:(Builtin.firstCells i.size n (.slice (some a) sLen sCap)).run P w=.ok cs.toArray w:=run_firstCells_some w i.size n a sLen sCap cs (by rw [hi];exact hl) hsrc
  simp [Builtin.copy_,run_underlying hu,Builtin.lenOf,sizeOf,typeInfo,hq,← hn,hf,hst]
def putCs (inner cs:List Value) (i:Nat):List Value:=inner.take (i * 4)++cs++inner.drop (i * 4)
theorem setRow_below {w:World} {g:Nat} (cs:Array Value):Only (fun k=>k=g) w (w.setRow g cs):=⟨rfl,rfl,rfl,by simp,fun k hk hn=>setRow_other w g k cs hn⟩
theorem sz_file:(Tryz.prog.info? 25).map (·.size)=some 4:=by kernel_rfl
theorem infoF:∃ i0,Tryz.prog.info? 25=some i0∧i0.zero=some (.agg #[(.string ⟨#[]⟩),(.int .u8 0),(.string ⟨#[]⟩),(.slice none 0 0)])∧i0.size=4∧i0.bytes=64:=by
 obtain ⟨i0,hi,hzz⟩:=Option.map_eq_some_iff.1 info_file
 simp only [Prod.mk.injEq] at hzz
 exact ⟨i0,hi,hzz.1,hzz.2.1,hzz.2.2⟩
set_option maxHeartbeats 8000000 in
set_option maxRecDepth 100000 in
theorem insert_calls (v:Value) (n:Nat) (inner cs:List Value) (i B:Nat) (W:World) (hrow:W.ownsRow B 25 4 v n inner) (hB:B≤W.heap.size) (hi:i≤n) (hcs:cs.length=4) (h1:∀ u∈cs,u.oneCell'=true) (h1i:∀ u∈inner,u.oneCell'=true) (hn:n≤274877906944) :
  Calls Tryz.prog 128 #[v,.int .i64 i,.slice (some ⟨W.heap.size,0,none⟩) 1 1] (W.alloc (.cells cs.toArray 25)) fun e w'=>∃ v',e=.returned v'∧w'.ownsRow B 25 4 v' (n+1) (putCs inner cs i)∧Only (fun k=>v.ownBlock=some k) W w'∧(v'.ownBlock=v.ownBlock∨∃ b,v'.ownBlock=some b∧W.heap.size≤b):=by
 have HROW:=Lib.hid hrow
 have hil:inner.length=n * 4:=hrow.1
 by_cases hin:i=n
 ·subst hin
  have hput:putCs inner cs i=inner++cs:=by
   unfold putCs
   rw [List.take_of_length_le (by omega),List.drop_of_length_le (by omega),List.append_nil]
  rw [hput]
  rcases hrow.2 with ⟨rfl,h0⟩ | ⟨g,cap,cur,rfl,hgB,hg,hnc,hcm,hcz,htk⟩
  ·subst h0
   clear hrow hput hil
   go_enter Tryz.func128,Tryz.ntmps128
   go_wp2_with (at_builtin;refine print_append_cells (w0:=W) B rfl (.tmp 23) (.tmp 24) 23 25 (.agg #[(.string ⟨#[]⟩),(.int .u8 0),(.string ⟨#[]⟩),(.slice none 0 0)]) 4 64 rfl Tryz.underlying23 info_file rfl (by decide) (by decide) _ 0 inner cs rfl rfl hcs h1 HROW.out (Below.refl _ _ |>.mono hB) hB (by omega) ?_;intro v1 w1 hown1 hb1 hg1 hat1;have HO1:=Lib.hid hown1;clear hown1)
   go_ret
   exact ⟨v1,rfl,HO1.out,Only.grown_of hg1,hat1⟩
  ·clear hrow hput hil
   go_enter Tryz.func128,Tryz.ntmps128
   go_wp2_with (at_builtin;refine print_append_cells (w0:=W) B rfl (.tmp 23) (.tmp 24) 23 25 (.agg #[(.string ⟨#[]⟩),(.int .u8 0),(.string ⟨#[]⟩),(.slice none 0 0)]) 4 64 rfl Tryz.underlying23 info_file rfl (by decide) (by decide) _ i inner cs rfl rfl hcs h1 HROW.out (Below.refl _ _ |>.mono hB) hB (by omega) ?_;intro v1 w1 hown1 hb1 hg1 hat1;have HO1:=Lib.hid hown1;clear hown1)
   all_goals
    go_ret
    exact ⟨v1,rfl,HO1.out,Only.grown_of hg1,hat1⟩
 ·have hlt:i<n:=by omega
  rcases hrow.2 with ⟨rfl,h0⟩ | ⟨g,cap,cur,rfl,hgB,hg,hnc,hcm,hcz,htk⟩
  ·omega
  ·have hgW:g<W.heap.size:=(Array.getElem?_eq_some_iff.1 hg).1
   have hz1:¬ ((i:Int)=(n:Int)):=by omega
   obtain ⟨d,hd⟩:∃ d,n=i+d:=⟨n - i,by omega⟩
   have hg0:(W.alloc (.cells cs.toArray 25)).heap[g]? = some (.cells cur 25 (0,0)):=(Below.heap_alloc W _ g (by omega)).trans hg
   have hv0:=blk_new W (.cells cs.toArray 25)
   have hcl:cur.toList.length=cap * 4:=by rw [Array.length_toList,hcz]
   have hci:∀ j u,(inner.drop (i * 4))[j]? = some u→cur.toList[i * 4+j]? = some u:=fun j u hj=>by
    rw [List.getElem?_drop,← htk,List.getElem?_take] at hj
    split at hj
    ·exact hj
    ·cases hj
   have hdl:(inner.drop (i * 4)).length=d * 4:=by rw [List.length_drop,hil];omega
   have hdo:∀ u∈inner.drop (i * 4),u.oneCell'=true:=fun u hu=>h1i u (List.mem_of_mem_drop hu)
   have htl:inner.take (i * 4)=cur.toList.take (i * 4):=by rw [← htk,List.take_take,Nat.min_eq_left (by omega)]
   have hvl:(inner.take (i * 4)).length=i * 4:=by rw [List.length_take,hil];omega
   by_cases hroom:n+1≤cap
   ·have hov:∀ o lb cb,(callFunc 138 #[.slice (some ⟨W.heap.size,0,none⟩) 1 1,.slice (some ⟨g,o,none⟩) lb cb]).run Tryz.prog (W.alloc (.cells cs.toArray 25))=.ok (.value (.bool false)) (W.alloc (.cells cs.toArray 25)):=fun o lb cb=>by
     rw [run_callFunc_extern Tryz.func138 (by kernel_rfl) (by kernel_rfl) (by kernel_rfl) (e:=Extern.SlicesOverlaps.overlaps #[23,23] #[4]) (by kernel_rfl),
      Lib.run_overlaps_apart _ 23 4 25 Tryz.underlying23 4 (fun _=>by rfl) ⟨W.heap.size,0,none⟩ ⟨g,o,none⟩ 1 1 lb cb (by simp only;omega) 25 25 4 (cap * 4) (by unfold World.shape?;simp only;rw [hv0];simp [hcs]) (by unfold World.shape?;simp only;rw [hg0];simp [hcz]) (by omega) (by unfold World.frozen?;simp only;rw [hv0];simp) (by unfold World.frozen?;simp only;rw [hv0];simp)]
     rfl
    obtain ⟨c1,hc1⟩:∃ c1,(cur.toList.take ((i+1) * 4)++inner.drop (i * 4)++cur.toList.drop ((i+1) * 4+(inner.drop (i * 4)).length)).toArray=c1:=⟨_,rfl⟩
    have hc1l:c1.toList=inner.take (i * 4)++(cur.toList.drop (i * 4)).take 4++inner.drop (i * 4)++cur.toList.drop ((n+1) * 4):=by
     rw [← hc1,List.toList_toArray,hdl,htl,show (i+1) * 4+d * 4=(n+1) * 4 by omega,show (i+1) * 4=i * 4+4 by omega,List.take_add]
    have hc1s:c1.size=cap * 4:=by
     rw [← Array.length_toList,hc1l]
     simp only [List.length_append,List.length_take,List.length_drop,hcl,hil]
     omega
    obtain ⟨c2,hc2⟩:∃ c2,(c1.toList.take (i * 4)++cs++c1.toList.drop (i * 4+cs.length)).toArray=c2:=⟨_,rfl⟩
    have hc2l:c2.toList=putCs inner cs i++cur.toList.drop ((n+1) * 4):=by
     rw [← hc2,List.toList_toArray,hc1l,hcs]
     unfold putCs
     have e4:((cur.toList.drop (i * 4)).take 4).length=4:=by simp only [List.length_take,List.length_drop,hcl];omega
     rw [show i * 4+4=(inner.take (i * 4)++(cur.toList.drop (i * 4)).take 4).length by rw [List.length_append,hvl,e4]]
     simp only [List.append_assoc]
     rw [← List.append_assoc (inner.take (i * 4)) ((cur.toList.drop (i * 4)).take 4),List.drop_left,List.append_assoc,show i * 4=(inner.take (i * 4)).length from hvl.symm]
     rw [List.take_left' (by simp [hvl])]
    have hcp1:∀ (V:World),V.heap[g]? = some (.cells cur 25 (0,0))→∀ ty dc sc,(Builtin.copy_ #[23,23] ty #[.slice (some ⟨g,(i+1) * 4,none⟩) (n - i) dc,.slice (some ⟨g,i * 4,none⟩) (n+1 - i) sc]).run Tryz.prog V=.ok (goInt d) (V.setRow g c1):=fun V hV ty dc sc=>by
     rw [← hc1]
     exact run_copy_rows V _ _ ty 25 g ((i+1) * 4) (n - i) dc ⟨g,i * 4,none⟩ (n+1 - i) sc d 4 cur 25 (inner.drop (i * 4)) Tryz.underlying23 sz_file hV (by simp only [Nat.min_def];split <;> omega) hdl
      (fun j u hj=>by
       have h:=hci j u hj
       rw [show (⟨g,i * 4,none⟩:Addr).add j=⟨g,i * 4+j,none⟩ by unfold Addr.add;split <;> simp_all]
       simpa [World.cell?,hV] using h) (by rw [hdl,hcz];omega) hdo
    have hcp2:∀ (V:World),V.heap[g]? = some (.cells c1 25 (0,0))→V.heap[W.heap.size]? = some (.cells cs.toArray 25 (0,0))→∀ ty dc,(Builtin.copy_ #[23,23] ty #[.slice (some ⟨g,i * 4,none⟩) (n+1 - i) dc,.slice (some ⟨W.heap.size,0,none⟩) 1 1]).run Tryz.prog V=.ok (goInt ((1:Nat):Int)) (V.setRow g c2):=fun V hV hV2 ty dc=>by
     rw [← hc2]
     exact run_copy_rows V _ _ ty 25 g (i * 4) (n+1 - i) dc ⟨W.heap.size,0,none⟩ 1 1 1 4 c1 25 cs Tryz.underlying23 sz_file hV (by simp only [Nat.min_def];split <;> omega) hcs
      (fun j u hj=>by
       rw [show (⟨W.heap.size,0,none⟩:Addr).add j=⟨W.heap.size,j,none⟩ by unfold Addr.add;split <;> simp_all]
       simpa [World.cell?,hV2] using hj) (by rw [hcs,hc1s];omega) h1
    have HFIN:Hid (∀ V:World,V.heap[g]? = some (.cells c2 25 (0,0))→V.ownsRow B 25 4 (.slice (some ⟨g,0,none⟩) (n+1) cap) (n+1) (putCs inner cs i)):=Lib.hid fun V hV=>by
     have hpl:(putCs inner cs i).length=(n+1) * 4:=by
      unfold putCs
      simp only [List.length_append,hvl,hdl,hcs]
      omega
     have hc2s:c2.size=cap * 4:=by
      rw [← Array.length_toList,hc2l,List.length_append,hpl,List.length_drop,hcl]
      omega
     exact ⟨hpl,.inr ⟨g,cap,c2,rfl,hgB,hV,hroom,hcm,hc2s,by rw [hc2l,← hpl,List.take_left]⟩⟩
    have HO1:=Lib.hid ((Only.alloc (fun k=>k=g) W (.cells cs.toArray 25)).drew)
    have hg1:(W.alloc (.cells cs.toArray 25)).drew.heap[g]? = some (.cells cur 25 (0,0)):=hg0
    have hs1:=setRow_heap (W.alloc (.cells cs.toArray 25)).drew g cur c1 _ _ hg1
    have hs2:=setRow_heap ((W.alloc (.cells cs.toArray 25)).drew.setRow g c1) g c1 c2 _ _ hs1
    have hv1:((W.alloc (.cells cs.toArray 25)).drew.setRow g c1).heap[W.heap.size]? = some (.cells cs.toArray 25 (0,0)):=(setRow_other _ g _ c1 (by omega)).trans hv0
    have HS2:=Lib.hid hs2
    have HCP1:=hcp1 _ hg1
    have HCP2:=hcp2 _ hs1 hv1
    have mixed:Tryz.prog.follows .mixedOrders=true:=by kernel_rfl
    have w1:IntKind.i64.wrap ((i:Int)+1)=(i:Int)+1:=by rw [IntKind.wrap_i64];omega
    have m0:(0:Int)≤(i:Int)+1:=by omega
    have m1:¬ (cap=i+1):=by omega
    have m2:¬ (cap=i):=by omega
    have m3:(i:Int)≤(n:Int)+1:=by omega
    have m4:(i:Int)+1≤(n:Int)+1:=by omega
    have m5:((i:Int)+1).toNat=i+1:=by omega
    clear hrow hcp1 hcp2 hc1 hc2 hc1l hc2l hci hdl htl hvl hcl hdo hd hil htk
    go_enter Tryz.func128,Tryz.ntmps128
    go_wp2_with (simp only [hov])
    go_region_law_o (refine step_copy_runI rfl _ _ 23 23 rfl _ _ (by simp [Act.eval,Act.put]) (by simp [Act.eval,Act.put]) (HCP1 _ _ _) ?_)
    go_wp2_with (at_builtin;refine wpList_copy_runI _ rfl _ _ 23 23 rfl _ _ rfl rfl (HCP2 _ _) ?_)
    go_ret
    refine ⟨_,rfl,HFIN.out _ HS2.out,?_,.inl rfl⟩
    exact ((HO1.out.trans (setRow_below c1) (fun k _ h=>h) (fun k _ h=>h)).trans (setRow_below c2) (fun k _ h=>h) (fun k _ h=>h)).mono fun k _ h=>by rw [h];rfl
   ·have hz3:(cap:Int)<(n:Int)+1:=by omega
    obtain ⟨i0,hi0,hz0,hzs,hzb⟩:=infoF
    have hS1:(W.alloc (.cells cs.toArray 25)).heap.size=W.heap.size+1:=by simp
    have hold:(Builtin.firstCells i0.size i (.slice (some ⟨g,0,none⟩) i cap)).run Tryz.prog (W.alloc (.cells cs.toArray 25)).drew=.ok (inner.take (i * 4)).toArray (W.alloc (.cells cs.toArray 25)).drew:=by
     rw [hzs]
     exact run_firstCells_some _ 4 i ⟨g,0,none⟩ i cap (inner.take (i * 4)) hvl (fun j u hj=>by
      rw [Addr.add_lit,Nat.zero_add]
      rw [htl,List.getElem?_take] at hj
      split at hj
      ·have hg1:(W.alloc (.cells cs.toArray 25)).drew.heap[g]? = some (.cells cur 25 (0,0)):=hg0
       simpa [World.cell?,hg1] using hj
      ·cases hj)
    have hkk:(n:Int)+1 - (i:Int)=((n+1 - i:Nat):Int):=by omega
    have hik:i+(n+1 - i)=n+1:=by omega
    obtain ⟨G,hG⟩:∃ G,G=grownCap (W.alloc (.cells cs.toArray 25)) (n+1) cap 25:=⟨_,rfl⟩
    obtain ⟨ROW,hROW⟩:∃ ROW:Array Value,ROW=(inner.take (i * 4)).toArray++Builtin.zeroCells (Value.agg #[(.string ⟨#[]⟩),(.int .u8 0),(.string ⟨#[]⟩),(.slice none 0 0)]).cells (n+1 - i)++Builtin.zeroCells (Value.agg #[(.string ⟨#[]⟩),(.int .u8 0),(.string ⟨#[]⟩),(.slice none 0 0)]).cells (G - (n+1)):=⟨_,rfl⟩
    have hGn:n+1≤G:=by rw [hG];exact grownCap_ge _ _ _ _
    have hGm:G≤maxLen:=by rw [hG];exact grownCap_le_maxLen _ _ _ _ (by unfold maxLen;omega)
    have hrz:∀ ty,(Builtin.append_ #[23,3] ty #[.slice (some ⟨g,0,none⟩) i cap,.int .i64 ((n:Int)+1 - (i:Int))]).run Tryz.prog (W.alloc (.cells cs.toArray 25)) =
      .ok (.slice (some ⟨W.heap.size+1,0,none⟩) (n+1) G) ((W.alloc (.cells cs.toArray 25)).drew.alloc (.cells ROW 25)):=fun ty=>by
     have h:=Lib.run_append_grow_zeros (W.alloc (.cells cs.toArray 25)) 23 3 ty 25 i0 _ .i64 .i64 Tryz.underlying23 Tryz.underlying3 hi0 hz0 (some ⟨g,0,none⟩) i cap (inner.take (i * 4)) hold (n+1 - i) (by omega) (by omega) (by omega) (by omega) (by rw [hzb];omega) (by rw [hzb,hik];exact growslice_fits (by omega) (by omega))
     rw [hik] at h
     rw [hkk,hROW,hG,← hS1]
     exact h
    have hRs:ROW.size=G * 4:=by
     rw [hROW]
     simp only [Array.size_append,List.size_toArray,hvl,Builtin.zeroCells,Array.size_map,Array.size_range]
     simp [Value.cells]
     omega
    obtain ⟨d1,hd1⟩:∃ d1,(ROW.toList.take (i * 4)++cs++ROW.toList.drop (i * 4+cs.length)).toArray=d1:=⟨_,rfl⟩
    have hd1l:d1.toList=inner.take (i * 4)++cs++ROW.toList.drop ((i+1) * 4):=by
     rw [← hd1,List.toList_toArray,hcs,show i * 4+4=(i+1) * 4 by omega]
     congr 2
     rw [hROW,Array.toList_append,Array.toList_append,List.toList_toArray,List.append_assoc,List.take_append_of_le_length (by rw [hvl];exact Nat.le_refl _),List.take_of_length_le (by rw [hvl];exact Nat.le_refl _)]
    have hd1s:d1.size=G * 4:=by
     rw [← Array.length_toList,hd1l]
     simp only [List.length_append,hvl,hcs,List.length_drop,Array.length_toList,hRs]
     omega
    obtain ⟨d2,hd2⟩:∃ d2,(d1.toList.take ((i+1) * 4)++inner.drop (i * 4)++d1.toList.drop ((i+1) * 4+(inner.drop (i * 4)).length)).toArray=d2:=⟨_,rfl⟩
    have hd2l:d2.toList=putCs inner cs i++d1.toList.drop ((n+1) * 4):=by
     rw [← hd2,List.toList_toArray,hdl,show (i+1) * 4+d * 4=(n+1) * 4 by omega,hd1l]
     unfold putCs
     congr 2
     rw [List.take_append_of_le_length (by rw [List.length_append,hvl,hcs];omega),List.take_of_length_le (by rw [List.length_append,hvl,hcs];omega)]
    have hcpA:∀ (V:World),V.heap[W.heap.size+1]? = some (.cells ROW 25 (0,0))→V.heap[W.heap.size]? = some (.cells cs.toArray 25 (0,0))→∀ ty dc,(Builtin.copy_ #[23,23] ty #[.slice (some ⟨W.heap.size+1,i * 4,none⟩) (n+1 - i) dc,.slice (some ⟨W.heap.size,0,none⟩) 1 1]).run Tryz.prog V=.ok (goInt ((1:Nat):Int)) (V.setRow (W.heap.size+1) d1):=fun V hV hV2 ty dc=>by
     rw [← hd1]
     exact run_copy_rows V _ _ ty 25 (W.heap.size+1) (i * 4) (n+1 - i) dc ⟨W.heap.size,0,none⟩ 1 1 1 4 ROW 25 cs Tryz.underlying23 sz_file hV (by simp only [Nat.min_def];split <;> omega) hcs
      (fun j u hj=>by
       rw [show (⟨W.heap.size,0,none⟩:Addr).add j=⟨W.heap.size,j,none⟩ by unfold Addr.add;split <;> simp_all]
       simpa [World.cell?,hV2] using hj) (by rw [hcs,hRs];omega) h1
    have hcpB:∀ (V:World),V.heap[W.heap.size+1]? = some (.cells d1 25 (0,0))→V.heap[g]? = some (.cells cur 25 (0,0))→∀ ty dc sc,(Builtin.copy_ #[23,23] ty #[.slice (some ⟨W.heap.size+1,(i+1) * 4,none⟩) (n - i) dc,.slice (some ⟨g,i * 4,none⟩) (n - i) sc]).run Tryz.prog V=.ok (goInt d) (V.setRow (W.heap.size+1) d2):=fun V hV hV2 ty dc sc=>by
     rw [← hd2]
     exact run_copy_rows V _ _ ty 25 (W.heap.size+1) ((i+1) * 4) (n - i) dc ⟨g,i * 4,none⟩ (n - i) sc d 4 d1 25 (inner.drop (i * 4)) Tryz.underlying23 sz_file hV (by simp only [Nat.min_def];split <;> omega) hdl
      (fun j u hj=>by
       have h:=hci j u hj
       rw [show (⟨g,i * 4,none⟩:Addr).add j=⟨g,i * 4+j,none⟩ by unfold Addr.add;split <;> simp_all]
       simpa [World.cell?,hV2] using h) (by rw [hdl,hd1s];omega) hdo
    have HFIN:Hid (∀ V:World,V.heap[W.heap.size+1]? = some (.cells d2 25 (0,0))→V.ownsRow B 25 4 (.slice (some ⟨W.heap.size+1,0,none⟩) (n+1) G) (n+1) (putCs inner cs i)):=Lib.hid fun V hV=>by
     have hpl:(putCs inner cs i).length=(n+1) * 4:=by
      unfold putCs
      simp only [List.length_append,hvl,hdl,hcs]
      omega
     have hd2s:d2.size=G * 4:=by
      rw [← Array.length_toList,hd2l,List.length_append,hpl,List.length_drop,Array.length_toList,hd1s]
      omega
     exact ⟨hpl,.inr ⟨_,G,d2,rfl,by omega,hV,hGn,hGm,hd2s,by rw [hd2l,← hpl,List.take_left]⟩⟩
    obtain ⟨W1,hW1⟩:∃ W1,W1=(W.alloc (.cells cs.toArray 25)).drew.alloc (.cells ROW 25):=⟨_,rfl⟩
    rw [← hW1] at hrz
    have hr1:W1.heap[W.heap.size+1]? = some (.cells ROW 25 (0,0)):=by
     rw [hW1,← hS1]
     exact blk_new (W.alloc (.cells cs.toArray 25)).drew _
    have hr2:W1.heap[W.heap.size]? = some (.cells cs.toArray 25 (0,0)):=by
     rw [hW1]
     exact (Below.heap_alloc (W.alloc (.cells cs.toArray 25)).drew _ _ (by show W.heap.size<(W.alloc (.cells cs.toArray 25)).heap.size;omega)).trans hv0
    have hr3:W1.heap[g]? = some (.cells cur 25 (0,0)):=by
     rw [hW1]
     exact (Below.heap_alloc (W.alloc (.cells cs.toArray 25)).drew _ _ (by show g<(W.alloc (.cells cs.toArray 25)).heap.size;omega)).trans hg0
    have hs1:(W1.setRow (W.heap.size+1) d1).drew.heap[W.heap.size+1]? = some (.cells d1 25 (0,0)):=setRow_heap W1 _ ROW d1 _ _ hr1
    have hs3:(W1.setRow (W.heap.size+1) d1).drew.heap[g]? = some (.cells cur 25 (0,0)):=(setRow_other _ _ _ d1 (by omega)).trans hr3
    have HS2:=Lib.hid (setRow_heap (W1.setRow (W.heap.size+1) d1).drew _ d1 d2 _ _ hs1)
    have HCPA:=hcpA _ hr1 hr2
    have HCPB:=hcpB _ hs1 hs3
    have HO1:Hid (Only (fun k=>(Value.slice (some ⟨g,0,none⟩) n cap).ownBlock=some k) W ((W1.setRow (W.heap.size+1) d1).drew.setRow (W.heap.size+1) d2)):=Lib.hid (by
     have o1:Only (fun k=>k=g) W W1:=by
      rw [hW1]
      exact ((Only.alloc (fun k=>k=g) W (.cells cs.toArray 25)).drew).trans (Only.alloc (fun _=>False) _ _) (fun k _ h=>h) (fun k _ h=>h.elim)
     have o2:Only (fun k=>k=W.heap.size+1) W1 ((W1.setRow (W.heap.size+1) d1).drew.setRow (W.heap.size+1) d2):=(setRow_below d1).drew.trans (setRow_below d2) (fun k _ h=>h) (fun k _ h=>h)
     exact (o1.trans o2 (fun k _ h=>h) (fun k hk h=>by omega)).mono fun k _ h=>by rw [h];rfl)
    have mixed:Tryz.prog.follows .mixedOrders=true:=by kernel_rfl
    have w1:IntKind.i64.wrap ((i:Int)+1)=(i:Int)+1:=by rw [IntKind.wrap_i64];omega
    have m0:(0:Int)≤(i:Int)+1:=by omega
    have m1:¬ (cap=i):=by omega
    have m2:¬ (G=i):=by omega
    have m6:¬ (G=i+1):=by omega
    have m3:(i:Int)≤(n:Int)+1:=by omega
    have m4:(i:Int)+1≤(n:Int)+1:=by omega
    have m5:((i:Int)+1).toNat=i+1:=by omega
    clear hrow hcpA hcpB hd1 hd2 hd1l hd2l hci hdl htl hvl hcl hdo hd hil htk hROW hG hold hkk hik hW1
    go_enter Tryz.func128,Tryz.ntmps128
    go_wp2_with (first
     | (at_builtin;refine Lib.wpList_append_run _ rfl _ _ _ _ rfl _ _ rfl rfl _ _ (hrz _) ?_)
     | (at_builtin;refine wpList_copy_runI _ rfl _ _ 23 23 rfl _ _ rfl rfl (HCPA _ _) ?_))
    go_region_law_o (refine step_copy_runI rfl _ _ 23 23 rfl _ _ (by simp [Act.eval,Act.put]) (by simp [Act.eval,Act.put]) (HCPB _ _ _) ?_)
    go_wp2
    go_ret
    exact ⟨_,rfl,HFIN.out _ HS2.out,HO1.out,.inr ⟨_,rfl,Nat.le_succ _⟩⟩
end
section
theorem step_append_runI {P:Program} {ops:Array Oper} {o:Oper} {a:Act} {w:World} {K:Act→World→Prop} {Q:Exit→Act→World→Prop} {E:Prop}
  (hg:o.guard=none) (d x:Operand) (dT sT:TypeId) (hop:o.op=Op.call {callee:=Callee.builtin Builtin.append,args:=#[d,x],argTypes:=#[dT,sT]})
  (v u:Value) (hd:a.eval d=v) (hx:a.eval x=u) {v':Value} {w':World} (hr:(Builtin.append_ #[dT,sT] o.type #[v,u]).run P w=.ok v' w') (hK:K (a.put o.dst v') w') :
  if Region.wanted o (yielded ops a.tmps)=true then Oper.wp P o a w K Q else E:=by
 have hw:Region.wanted o (yielded ops a.tmps)=true:=by simp [Region.wanted,hg]
 rw [if_pos hw]
 unfold Oper.wp
 simp [execOp,hop,resolve,invoke,builtin,hd,hx,hr,Result.andThen]
 exact hK
def zsF:List Value:=[(.string ⟨#[]⟩),(.int .u8 0),(.string ⟨#[]⟩),(.slice none 0 0)]
theorem zero_file (W:World):(zeroValue 25).run Tryz.prog W=.ok (.agg #[(.string ⟨#[]⟩),(.int .u8 0),(.string ⟨#[]⟩),(.slice none 0 0)]) W:=by kernel_rfl
set_option maxHeartbeats 8000000 in
set_option maxRecDepth 100000 in
theorem delete_calls (g n cap:Nat) (inner:List Value) (i B:Nat) (W:World) (hrow:W.ownsRow B 25 4 (.slice (some ⟨g,0,none⟩) n cap) n inner) (hi:i<n) (h1i:∀ u∈inner,u.oneCell'=true) (hn:n≤274877906944) :
  Calls Tryz.prog 127 #[.slice (some ⟨g,0,none⟩) n cap,.int .i64 i,.int .i64 ((i:Int)+1)] W fun e w'=>e=.returned (.slice (some ⟨g,0,none⟩) (n - 1) cap)∧w'.ownsRow B 25 4 (.slice (some ⟨g,0,none⟩) (n - 1) cap) (n - 1) (inner.take (i * 4)++inner.drop ((i+1) * 4))∧Only (fun k=>k=g) W w':=by
 have hil:inner.length=n * 4:=hrow.1
 rcases hrow.2 with ⟨h0,_⟩ | ⟨g',cap',cur,h0,hgB,hg,hnc,hcm,hcz,htk⟩
 ·cases h0
 ·simp only [Value.slice.injEq,Option.some.injEq,Addr.mk.injEq,and_true,true_and] at h0
  obtain ⟨rfl,rfl⟩:=h0
  have hcl:cur.toList.length=cap * 4:=by rw [Array.length_toList,hcz]
  have hci:∀ j u,(inner.drop ((i+1) * 4))[j]? = some u→cur.toList[(i+1) * 4+j]? = some u:=fun j u hj=>by
   rw [List.getElem?_drop,← htk,List.getElem?_take] at hj
   split at hj
   ·exact hj
   ·cases hj
  have hdl:(inner.drop ((i+1) * 4)).length=(n - (i+1)) * 4:=by rw [List.length_drop,hil];omega
  have hdo:∀ u∈inner.drop ((i+1) * 4),u.oneCell'=true:=fun u hu=>h1i u (List.mem_of_mem_drop hu)
  have htl:inner.take (i * 4)=cur.toList.take (i * 4):=by rw [← htk,List.take_take,Nat.min_eq_left (by omega)]
  have hvl:(inner.take (i * 4)).length=i * 4:=by rw [List.length_take,hil];omega
  obtain ⟨c1,hc1⟩:∃ c1,(cur.toList.take (i * 4)++inner.drop ((i+1) * 4)++cur.toList.drop (i * 4+(inner.drop ((i+1) * 4)).length)).toArray=c1:=⟨_,rfl⟩
  have hc1l:c1.toList=(inner.take (i * 4)++inner.drop ((i+1) * 4))++cur.toList.drop ((n - 1) * 4):=by
   rw [← hc1,List.toList_toArray,hdl,htl,show i * 4+(n - (i+1)) * 4=(n - 1) * 4 by omega]
  have hpl:(inner.take (i * 4)++inner.drop ((i+1) * 4)).length=(n - 1) * 4:=by rw [List.length_append,hvl,hdl];omega
  have hc1s:c1.size=cap * 4:=by
   rw [← Array.length_toList,hc1l,List.length_append,hpl,List.length_drop,hcl]
   omega
  obtain ⟨c2,hc2⟩:∃ c2,(c1.toList.take ((i+(n - (i+1))) * 4)++zsF++c1.toList.drop ((i+(n - (i+1))) * 4+zsF.length)).toArray=c2:=⟨_,rfl⟩
  have hc2l:c2.toList=(inner.take (i * 4)++inner.drop ((i+1) * 4))++(zsF++c1.toList.drop (n * 4)):=by
   rw [← hc2,List.toList_toArray,show (i+(n - (i+1))) * 4=(n - 1) * 4 by omega,show (n - 1) * 4+zsF.length=n * 4 by show (n - 1) * 4+4=n * 4;omega,List.append_assoc]
   congr 1
   rw [hc1l,← hpl,List.take_left]
  have hc2s:c2.size=cap * 4:=by
   have hc1L:c1.toList.length=cap * 4:=by rw [Array.length_toList,hc1s]
   rw [← Array.length_toList,hc2l,List.length_append,hpl,List.length_append,List.length_drop,hc1L]
   show (n - 1) * 4+(4+(cap * 4 - n * 4))=cap * 4
   omega
  obtain ⟨i0,hi0,hz0,hzs,hzb⟩:=infoF
  obtain ⟨A,hA,hsrc⟩:∃ A:Addr,(if cap=i+1 then some (⟨g,0,none⟩:Addr) else some ⟨g,(i+1) * 4,none⟩)=some A∧(∀ t u,(inner.drop ((i+1) * 4))[t]? = some u→W.drew.cell? (A.add t)=some u):=by
   have hgd:W.drew.heap[g]? = some (.cells cur 25 (0,0)):=hg
   by_cases h:cap=i+1
   ·refine ⟨⟨g,0,none⟩,by simp [h],fun t u hu => ?_⟩
    have h0:(inner.drop ((i+1) * 4)).length=0:=by rw [hdl];omega
    rw [List.length_eq_zero_iff.1 h0] at hu
    simp at hu
   ·refine ⟨⟨g,(i+1) * 4,none⟩,by simp [h],fun t u hu => ?_⟩
    rw [Addr.add_lit]
    have h:=hci t u hu
    simpa [World.cell?,hgd] using h
  have hap:∀ ty,(Builtin.append_ #[23,23] ty #[.slice (some ⟨g,0,none⟩) i cap,.slice (some A) (n - (i+1)) (cap - (i+1))]).run Tryz.prog W.drew=.ok (.slice (some ⟨g,0,none⟩) (i+(n - (i+1))) cap) (W.drew.setRow g c1):=fun ty=>by
   have h:=run_append_room (P:=Tryz.prog) W.drew 23 ty 25 i0 Tryz.underlying23 hi0 g i cap cur hg A (n - (i+1)) (cap - (i+1)) (inner.drop ((i+1) * 4)) (by rw [hzs,hdl]) hsrc hdo (by omega) (by rw [hzs,hdl,hcz];omega)
   rw [hzs,hc1] at h
   exact h
  have hg1:(W.drew.setRow g c1).heap[g]? = some (.cells c1 25 (0,0)):=setRow_heap W.drew g cur c1 _ _ hg
  have hcle:∀ ty k,(Builtin.clear_ #[23] ty #[.slice (some ⟨g,(i+(n - (i+1))) * 4,none⟩) (n - (i+(n - (i+1)))) k]).run Tryz.prog (W.drew.setRow g c1)=.ok (.tuple #[]) ((W.drew.setRow g c1).setRow g c2):=fun ty k=>by
   have hst:=run_storeCells_at Tryz.prog g ((i+(n - (i+1))) * 4) 25 zsF 0 c1 _ hg1 (by rw [hc1s];show (i+(n - (i+1))) * 4+0+4≤cap * 4;omega) (by decide)
   simp only [Nat.add_zero] at hst
   rw [hc2] at hst
   rw [show n - (i+(n - (i+1)))=1 by omega]
   have hzc:(Builtin.zeroCells (Value.agg #[(.string ⟨#[]⟩),(.int .u8 0),(.string ⟨#[]⟩),(.slice none 0 0)]).cells 1).toList=zsF:=by kernel_rfl
   simp [Builtin.clear_,run_underlying Tryz.underlying23,zero_file,hzc,hst]
  have HFIN:Hid (∀ V:World,V.heap[g]? = some (.cells c2 25 (0,0))→V.ownsRow B 25 4 (.slice (some ⟨g,0,none⟩) (n - 1) cap) (n - 1) (inner.take (i * 4)++inner.drop ((i+1) * 4))):=Lib.hid fun V hV =>
   ⟨hpl,.inr ⟨g,cap,c2,rfl,hgB,hV,by omega,hcm,hc2s,by rw [hc2l,← hpl,List.take_left]⟩⟩
  have HS2:=Lib.hid (setRow_heap (W.drew.setRow g c1) g c1 c2 _ _ hg1)
  have HO1:Hid (Only (fun k=>k=g) W ((W.drew.setRow g c1).setRow g c2)):=Lib.hid ((((Only.refl (fun k=>k=g) W).drew).trans (setRow_below c1) (fun k _ h=>h) (fun k _ h=>h)).trans (setRow_below c2) (fun k _ h=>h) (fun k _ h=>h))
  have HAP:=hap
  obtain ⟨W1,hW1⟩:∃ W1,W1=W.drew.setRow g c1:=⟨_,rfl⟩
  rw [← hW1] at hcle HAP HS2 HO1
  have mixed:Tryz.prog.follows .mixedOrders=true:=by kernel_rfl
  have m1:(i:Int)≤(i:Int)+1:=by omega
  have m2:(i:Int)+1≤(n:Int):=by omega
  have m3:((i:Int)+1).toNat=i+1:=by omega
  have m4:(0:Int)≤(i:Int)+1:=by omega
  have m5:i≤cap:=by omega
  have m6:i+1≤cap:=by omega
  have m7:¬ ((i:Int)=(i:Int)+1):=by omega
  have m8:i+1≤n:=by omega
  have m9:(i:Int)≤(n:Int):=by omega
  clear hrow hap hc1 hc2 hc1l hc2l hci hdl htl hvl hcl hdo hpl hsrc hil htk hg1 hzs hzb hz0 hi0 hc1s hc2s hW1
  go_enter Tryz.func127,Tryz.ntmps127
  go_wp2_with fail
  go_region_law_o (refine step_append_runI rfl (.tmp 22) (.tmp 25) 23 23 rfl _ _ (by simp [Act.eval,Act.put]) (by simp [Act.eval,Act.put]) (HAP _) ?_)
  go_wp2
  go_ret
  have e1:i+(n - (i+1))=n - 1:=by omega
  rw [e1]
  exact ⟨rfl,HFIN.out _ HS2.out,HO1.out⟩
end
section
set_option maxHeartbeats 8000000 in
set_option maxRecDepth 100000 in
theorem copy_apart:∀ (n:Nat) (a:File) (A:Option Addr) (c:Nat) (w:World),a.bulk≤n→a.bulk≤1099511627776→FileK.C w A a.files.length a.files→a.files.length≤c →
  Calls Tryz.prog 21 #[fileV a A c] w fun e w'=>∃ v bl,e=.returned (.agg #[.string a.name,.int .u8 a.kind,.string a.data,v])∧FT w.heap.size a w' v bl∧bl.Nodup∧Below w.heap.size w w':=by
 intro n
 induction n with
 | zero=>intro a A c w h;have:=bulk_eq a;omega
 | succ n ih =>
 intro a A c w hn hbk hr hc
 have HI:=Lib.hid (fun (x:File) A c W h1 h2=>ih x A c W h1 h2)
 clear ih
 have hlen:=bulkL_len a.files
 have hbe:=bulk_eq a
 have HR:=Lib.hid hr
 clear hr
 have HN':∀ x∈a.files,x.bulk≤n∧x.bulk≤1099511627776:=fun x hx=>by have:=bulk_child hx;omega
 have hal':a.files.length≤1099511627776:=by omega
 obtain ⟨an,ak,ad,af⟩:=a
 change af.length≤c at hc
 change Hid (FileK.C w A af.length af) at HR
 have hal:af.length≤1099511627776:=hal'
 have HN:Hid (∀ x∈af,x.bulk≤n∧x.bulk≤1099511627776):=Lib.hid HN'
 clear hbe hlen hn hbk hal' HN'
 go_enter Tryz.func21,Tryz.ntmps21
 unfold fileV
 go_wp2_with fail
 go_loopw [16] (fun i wr=>∃ (k:Nat) (v:Value) (bl:List Nat),k≤af.length∧i=.int .i64 k∧Below w.heap.size w wr∧Hid (wr.heap[w.heap.size+2]? = some (.cells #[.string an,.int .u8 ak,.string ad,v] 25 (0,0)))
  ∧ Hid (wr.heap[w.heap.size+1]? = some (.cells zC 25 (0,0)))
  ∧ Hid (FT w.heap.size ⟨an,ak,ad,af.take k⟩ wr v bl)∧Hid (bl.Nodup∧∀ j∈bl,w.heap.size+3≤j)∧w.heap.size+3≤wr.heap.size) (fun i _=>af.length - (RowKit.intOf i).toNat)
 case atStart =>
  exact ⟨0,.slice none 0 0,[],by omega,rfl,((((Below.refl _ _).alloc (Nat.le_refl _) _).alloc (by simp) _).alloc (by simp;omega) _),Lib.hid (three_boxes w _ _ _ _ _ _),Lib.hid ((Below.heap_alloc _ _ _ (by simp)).trans (two_boxes w _ _ _ _).2),Lib.hid (by rw [FT_eq];exact .inl ⟨rfl,rfl,rfl⟩),Lib.hid ⟨List.nodup_nil,fun _ h=>(by cases h)⟩,by simp⟩
 case round =>
  obtain ⟨k,v,bl,hk,rfl,hb,HB2,HB1,HV,HN1,hsz⟩:=hrel
  by_cases hlt:k<af.length
  ·obtain ⟨aad,A',c',rfl,p1,p2,p3,p4,hc',hC'⟩:=file_at HR.out k hlt
   have mv:∀ {p:Addr} {v:Value},w.cell? p=some v→wr.cell? p=some v:=fun h=>(hb.cell (World.block_lt_of_cell? w _ h)).trans h
   have p1':=mv p1
   have p2':=mv p2
   have p3':=mv p3
   have p4':=mv p4
   have hmem:=HN.out _ (List.getElem_mem hlt)
   have htk:af.take (k+1)=af.take k++[af[k]]:=by rw [List.take_succ_eq_append_getElem hlt]
   have HTK:=Lib.hid htk
   have HC:=Lib.hid (fun W (h:Below wr.heap.size wr W)=>(show Calls Tryz.prog 21 #[.agg #[.string af[k].name,.int .u8 af[k].kind,.string af[k].data,.slice A' af[k].files.length c']] W _ from HI.out af[k] A' c' W hmem.1 hmem.2 (Kd.C_below hC' (hb.trans (h.mono hb.size))) hc'))
   clear p1 p2 p3 p4 mv hmem hC' htk HI
   generalize af[k]=x at *
   have g1:(k:Int)<(af.length:Int):=by omega
   have HBL:=Lib.hid (fun j (hj:j∈bl)=>(⟨HN1.out.2 j hj,(FT_lt _ _ _ _ _ HV.out j hj).1⟩:w.heap.size+3≤j∧j<wr.heap.size))
   have hf2:wr.frozen? ⟨w.heap.size+1+1,3,none⟩=false:=by simp [World.frozen?,HB2.out]
   have hx2:wr.cell? ⟨w.heap.size+1+1,3,none⟩=some v:=cell_of HB2.out rfl
   have hbx:=below_alloc (Below.refl wr.heap.size wr) (.cells (fc x A' c') 25)
   have hnb:=blk_new wr (.cells (fc x A' c') 25)
   have hsX:(wr.alloc (.cells (fc x A' c') 25)).heap.size=wr.heap.size+1:=by simp
   go_wp2_with fail
   clear p1' p2' p3' p4'
   generalize wr.alloc (.cells (fc x A' c') 25)=W1 at *
   have y0:W1.cell? ⟨wr.heap.size,0,none⟩=some (.string x.name):=cell_of hnb rfl
   have y1:W1.cell? ⟨wr.heap.size,1,none⟩=some (.int .u8 x.kind):=cell_of hnb rfl
   have y2:W1.cell? ⟨wr.heap.size,2,none⟩=some (.string x.data):=cell_of hnb rfl
   have y3:W1.cell? ⟨wr.heap.size,3,none⟩=some (.slice A' x.files.length c'):=cell_of hnb rfl
   have z3:=(hbx.cell (p:=⟨w.heap.size+1+1,3,none⟩) (by simp only;omega)).trans hx2
   have zf:=(hbx.frozen (p:=⟨w.heap.size+1+1,3,none⟩) (by simp only;omega)).trans hf2
   have HVX:=Lib.hid (FT_below HV.out hbx)
   have HNB:=Lib.hid hnb
   clear hx2 hf2 hnb
   refine start_ (n:=8) (S:=fun w'=>w'.cell? ⟨w.heap.size+1+1,3,none⟩=some v∧w'.cell? ⟨wr.heap.size,0,none⟩=some (.string x.name)∧w'.cell? ⟨wr.heap.size,1,none⟩=some (.int .u8 x.kind)∧w'.cell? ⟨wr.heap.size,2,none⟩=some (.string x.data)∧w'.cell? ⟨wr.heap.size,3,none⟩=some (.slice A' x.files.length c')) (ds:=[7]) #[false,false,false,false,false,false,false,false] (by kernel_rfl) rfl rfl ⟨z3,y0,y1,y2,y3⟩ (fun hHeld => ?_)
   refine pA 0 20 #[true,false,false,false,false,false,false,false] ?_
   refine tA 1 21 #[true,true,false,false,false,false,false,false] hHeld ?_ (hy:=by
    rintro w' ⟨s0,s1,s2,s3,s4⟩
    go_simp
    with_reducible rfl)
   refine tA 2 22 #[true,true,true,false,false,false,false,false] hHeld ?_ (hy:=by
    rintro w' ⟨s0,s1,s2,s3,s4⟩
    go_simp
    with_reducible rfl)
   refine eA 3 23 #[true,true,true,true,false,false,false,false] (fun K hK => ?_)
   refine gA Tryz.func21 #[.agg (fc x A' c')] ?_
   refine (HC.out _ (bdrew hbx)).mono ?_
   rintro e w1 ⟨v1,bx,rfl,ho1,hn1,hb1⟩
   refine ⟨_,rfl,?_⟩
   have hszd:W1.drew.heap.size=W1.heap.size:=rfl
   rw [hszd] at ho1 hb1
   have hb1':Below W1.heap.size W1 w1:=(bdrew (Below.refl W1.heap.size W1)).trans hb1
   have hb1r:Below wr.heap.size wr w1:=hbx.trans (hb1'.mono (by omega))
   have hbw1:=bstep hb hb.size hb1r
   have HV1:=Lib.hid (FT_below HVX.out hb1')
   have HBX:=Lib.hid (fun j (hj:j∈bx)=>FT_lt _ _ _ _ _ ho1 j hj)
   have HP1:=Lib.hid (FT_lower (B':=w.heap.size) (by omega) _ _ _ _ ho1)
   have hs1:=hb1'.size
   have HG2:=Lib.hid ((hb1r.block (w.heap.size+2) (by omega)).trans HB2.out)
   have HG1:=Lib.hid ((hb1r.block (w.heap.size+1) (by omega)).trans HB1.out)
   have HGX:=Lib.hid ((hb1'.block wr.heap.size (by omega)).trans HNB.out)
   obtain ⟨A1,c1,rfl,hc1,hC1⟩:=FT_reads _ _ _ _ _ HP1.out
   clear ho1 hC1 z3 zf hb1 hHeld y0 y1 y2 y3
   refine hK.out _ _ ⟨cell_of HG2.out rfl,cell_of HGX.out rfl,cell_of HGX.out rfl,cell_of HGX.out rfl,cell_of HGX.out rfl⟩ (fun hHeld => ?_)
   refine nA 23 ?_
   refine eA 4 24 #[true,true,true,true,true,false,false,false] (fun K hK => ?_)
   refine vA ?_
   have HG2a:=(Below.heap_alloc w1 (.cells (fc x A1 c1) 25) (w.heap.size+2) (by omega)).trans HG2.out
   have HGXa:=(Below.heap_alloc w1 (.cells (fc x A1 c1) 25) wr.heap.size (by omega)).trans HGX.out
   refine hK.out _ _ ⟨cell_of HG2a rfl,cell_of HGXa rfl,cell_of HGXa rfl,cell_of HGXa rfl,cell_of HGXa rfl⟩ (fun hHeld => ?_)
   refine nA 24 ?_
   refine eA 5 25 #[true,true,true,true,true,true,false,false] (fun K hK => ?_)
   obtain ⟨inner,bs,hown,hL,hbn,hbs,hvb⟩:=FT_own HV1.out HN1.out.1
   have hlt1:(File.mk an ak ad (af.take k)).files.length=k:=by show (af.take k).length=k;rw [List.length_take];omega
   rw [hlt1] at hown
   obtain ⟨i0,hi0,hz0,hzs,hzb⟩:=infoF
   obtain ⟨v2,w2,hrun,ho2,hg2,_,hat2⟩:=run_append_own_at (P:=Tryz.prog) (w1.alloc (.cells (fc x A1 c1) 25)) w.heap.size 23 23 25 i0 _ 4 64 Tryz.underlying23 hi0 hz0 hzs hzb (by decide) (by decide) v k inner (hown.alloc _) ⟨w1.heap.size,0,none⟩ 1 1 [.string x.name,.int .u8 x.kind,.string x.data,.slice A1 x.files.length c1] rfl
    (by simpa using World.news_of_block (cs:=(fc x A1 c1)) (t:=25) (fr:=(0,0)) (heap_alloc_new w1 (.cells (fc x A1 c1) 25))) (by intro u hu;simp only [List.mem_cons,List.not_mem_nil,or_false] at hu;rcases hu with rfl | rfl | rfl | rfl <;> rfl) (by simp only [maxLen];omega) (by omega) (by simp;omega)
   refine value_ (w1:=w2) (v:=v2) (by rfl) rfl ?_ ?_
   ·simp [execOp,resolve,invoke,builtin,Act.eval,hrun,Result.andThen]
   have hal:=(Below.refl w1.heap.size w1).alloc (Nat.le_refl _) (.cells (fc x A1 c1) 25)
   have hsz1:(w1.alloc (.cells (fc x A1 c1) 25)).heap.size=w1.heap.size+1:=by simp
   have hvlt:∀ j,v.ownBlock=some j→w.heap.size+3≤j∧j<wr.heap.size:=fun j hj=>HBL.out j (hvb j hj)
   have hb2:Below w.heap.size w w2:=(hbw1.trans (hal.mono (by omega))).grown hg2 (by omega) (fun j hj=>by have:=(hvlt j hj).1;omega)
   obtain ⟨b1,b2,hbb,hL2⟩:=LT_ins (B:=w.heap.size) (z:=x) (af.take k).length hL HP1.out
   obtain ⟨g2,hg2v⟩:∃ g2,v2.ownBlock=some g2:=by
    rcases ho2.2 with ⟨_,h0⟩ | ⟨g',cap,cur,hvv,_⟩
    ·omega
    ·exact ⟨g',by rw [hvv];rfl⟩
   have hor:v.ownBlock=some g2∨w1.heap.size<g2+1∧w1.heap.size≤g2:=by
    rcases hat2 with h2 | h2
    ·exact .inl (h2.symm.trans hg2v)
    ·rw [hg2v] at h2
     injection h2 with h2
     rw [h2,hsz1]
     exact .inr ⟨by omega,by omega⟩
   have hil:inner.length=(af.take k).length * 4:=by rw [hown.1,List.length_take];omega
   have hkeep:∀ j,j<w1.heap.size→v.ownBlock≠some j→w2.heap[j]? = w1.heap[j]? := fun j hj hn=>(hg2.block j (by omega) (fun e=>hn e.symm)).trans (hal.block j hj)
   have hrow2:w2.ownsRow w.heap.size 25 4 v2 (af.take (k+1)).length (inner++[.string x.name,.int .u8 x.kind,.string x.data,.slice A1 x.files.length c1]):=by
    rw [show (af.take (k+1)).length=k+1 by rw [List.length_take];omega]
    exact ho2
   have hL3:LT w.heap.size (af.take (k+1)) w2 (inner++[.string x.name,.int .u8 x.kind,.string x.data,.slice A1 x.files.length c1]) (b1++(bx++b2)):=by
    have h3:=LT_move _ _ _ w2 _ _ hL2 fun j hj=>by
     have hj2:j∈bs∨j∈bx:=by
      rw [hbb]
      simp only [List.mem_append] at hj ⊢
      rcases hj with h | h | h
      ·exact .inl (.inl h)
      ·exact .inr h
      ·exact .inl (.inr h)
     rcases hj2 with hj2 | hj2
     ·have h4:=HBL.out j (hbs j hj2).1
      exact hkeep j (by omega) (hbs j hj2).2
     ·have h4:=HBX.out j hj2
      exact hkeep j (by omega) (fun e=>by have:=(hvlt j e).2;omega)
    change LT w.heap.size ((af.take k).take (af.take k).length++x :: (af.take k).drop (af.take k).length) w2 _ _ at h3
    rw [← hil,List.take_length,List.take_length,List.drop_length,List.drop_length,List.append_nil] at h3
    rw [HTK.out]
    exact h3
   have HO2:Hid (FT w.heap.size (File.mk an ak ad (af.take (k+1))) w2 v2 (g2 :: (b1++(bx++b2)))):=Lib.hid (FT_row (d:=File.mk an ak ad (af.take (k+1))) hg2v hrow2 hL3)
   have HN2:Hid ((g2 :: (b1++(bx++b2))).Nodup∧∀ j∈g2 :: (b1++(bx++b2)),w.heap.size+3≤j):=Lib.hid (by
    have hg2n:g2 ∉ bs:=fun h=>by
     rcases hor with e | e
     ·exact (hbs g2 h).2 e
     ·have:=(HBL.out g2 (hbs g2 h).1).2
      omega
    have hg2x:g2 ∉ bx:=fun h=>by
     have h4:=HBX.out g2 h
     rcases hor with e | e
     ·have:=(hvlt g2 e).2
      omega
     ·omega
    have hd2:∀ j∈bx,j ∉ bs:=fun j hj hj2=>by
     have h4:=HBX.out j hj
     have:=(HBL.out j (hbs j hj2).1).2
     omega
    refine ⟨nodup_mid (b2:=[]) (by rw [List.nil_append,← hbb];exact hbn) hn1 (by rw [List.nil_append,← hbb];exact hd2) (by rw [List.nil_append,← hbb];exact hg2n) hg2x,fun j hj => ?_⟩
    have hj2:j=g2∨j∈bs∨j∈bx:=by
     rw [hbb]
     simp only [List.mem_append,List.mem_cons] at hj ⊢
     rcases hj with h | h | h | h
     ·exact .inl h
     ·exact .inr (.inl (.inl h))
     ·exact .inr (.inr h)
     ·exact .inr (.inl (.inr h))
    rcases hj2 with rfl | hj2 | hj2
    ·rcases hor with e | e
     ·exact (hvlt _ e).1
     ·omega
    ·exact (HBL.out j (hbs j hj2).1).1
    ·have:=HBX.out j hj2
     omega)
   have hrow:∀ j,v.ownBlock=some j→w.heap.size+3≤j:=fun j hj=>(hvlt j hj).1
   have HK2:=hg2.block (w.heap.size+2) (by omega) (fun e=>by have:=hrow _ e.symm;omega)
   have HK1:=hg2.block (w.heap.size+1) (by omega) (fun e=>by have:=hrow _ e.symm;omega)
   have HH2:=Lib.hid (HK2.trans HG2a)
   have HH1:=Lib.hid (HK1.trans ((Below.heap_alloc w1 _ _ (by omega)).trans HG1.out))
   have HHX:=Lib.hid ((hg2.block wr.heap.size (by omega) (fun e=>by have:=hvlt _ e.symm;omega)).trans HGXa)
   have hg2s:=hg2.size
   have hk1:(af.take (k+1)).length=k+1:=by rw [List.length_take];omega
   obtain ⟨A2,c2,rfl,hc2,hC2⟩:=FT_reads _ _ _ _ _ HO2.out
   change Hid (FT _ _ w2 (.slice A2 (af.take (k+1)).length c2) _) at HO2
   change (af.take (k+1)).length≤c2 at hc2
   dsimp only at hrun ⊢
   rw [hk1] at HO2 hc2 ⊢
   clear ho2 hC2 hHeld HK1 HK2 hat2 hrow hg2 hrun hL2 hL hown hbs hvb hbn hbb hor hg2v hkeep hvlt hal hi0 hz0 hzs hzb hil hlt1 hrow2 hL3
   refine hK.out _ _ ⟨cell_of HH2.out rfl,cell_of HHX.out rfl,cell_of HHX.out rfl,cell_of HHX.out rfl,cell_of HHX.out rfl⟩ (fun hHeld => ?_)
   refine nA 25 ?_
   refine pA 6 26 #[true,true,true,true,true,true,true,false] ?_
   refine last_ (i:=7) (N:=none) #[true,true,true,true,true,true,true,true] rfl rfl (by kernel_rfl) (by decide) (fun K hK => ?_)
   have hcs:w2.cell? ⟨w.heap.size+1+1,3,none⟩=some v:=cell_of HH2.out rfl
   have hfs:w2.frozen? ⟨w.heap.size+1+1,3,none⟩=false:=by simp [World.frozen?,HH2.out]
   refine sA ?_
   refine hK.out _ _ ?_
   refine done_ (by kernel_rfl) ?_
   go_wp2_with fail
   go_roundw
   case rel =>
    exact ⟨k+1,_,_,by omega,by go_num,hb2.setCell (p:=⟨w.heap.size+1+1,3,none⟩) (by simp only;omega) _,Lib.hid (blk_put (cs:=#[.string an,.int .u8 ak,.string ad,v]) HH2.out 3 _ rfl),Lib.hid ((Below.heap_setCell _ _ _ _ (by simp only;omega)).trans HH1.out),Lib.hid (FT_move _ _ _ _ _ _ HO2.out fun j hj=>Below.heap_setCell _ _ _ _ (by have:=HN2.out.2 j hj;simp only;omega)),HN2,by simp [World.setCell];omega⟩
   case measure=>simp [RowKit.intOf];omega
  ·obtain rfl:k=af.length:=by omega
   have e0:wr.cell? ⟨w.heap.size+1+1,0,none⟩=some (.string an):=cell_of HB2.out rfl
   have e1:wr.cell? ⟨w.heap.size+1+1,1,none⟩=some (.int .u8 ak):=cell_of HB2.out rfl
   have e2:wr.cell? ⟨w.heap.size+1+1,2,none⟩=some (.string ad):=cell_of HB2.out rfl
   have e3:wr.cell? ⟨w.heap.size+1+1,3,none⟩=some v:=cell_of HB2.out rfl
   have d0:wr.cell? ⟨w.heap.size+1,0,none⟩=some (.string ⟨#[]⟩):=cell_of HB1.out rfl
   have d1:wr.cell? ⟨w.heap.size+1,1,none⟩=some (.int .u8 0):=cell_of HB1.out rfl
   have d2:wr.cell? ⟨w.heap.size+1,2,none⟩=some (.string ⟨#[]⟩):=cell_of HB1.out rfl
   have d3:wr.cell? ⟨w.heap.size+1,3,none⟩=some (.slice none 0 0):=cell_of HB1.out rfl
   have f0:∀ j,wr.frozen? ⟨w.heap.size+1,j,none⟩=false:=fun j=>by simp [World.frozen?,HB1.out]
   have f00:=f0 0
   have f01:=f0 1
   have f02:=f0 2
   have f03:=f0 3
   rw [List.take_length] at HV
   obtain ⟨A2,c2,rfl,hc2,hC2⟩:=FT_reads _ _ _ _ _ HV.out
   dsimp only at hc2 e3 ⊢
   change Hid (FT _ _ wr (.slice A2 af.length c2) _) at HV
   clear hlt f0 hC2 HI
   have hbz:Below w.heap.size w ((((wr.setCell ⟨w.heap.size+1,0,none⟩ (.string an)).setCell ⟨w.heap.size+1,1,none⟩ (.int .u8 ak)).setCell ⟨w.heap.size+1,2,none⟩ (.string ad)).setCell ⟨w.heap.size+1,3,none⟩ (.slice A2 af.length c2)) :=
    (((hb.setCell (by simp only;omega) _).setCell (by simp only;omega) _).setCell (by simp only;omega) _).setCell (by simp only;omega) _
   have hVz:FT w.heap.size ⟨an,ak,ad,af⟩ ((((wr.setCell ⟨w.heap.size+1,0,none⟩ (.string an)).setCell ⟨w.heap.size+1,1,none⟩ (.int .u8 ak)).setCell ⟨w.heap.size+1,2,none⟩ (.string ad)).setCell ⟨w.heap.size+1,3,none⟩ (.slice A2 af.length c2)) (.slice A2 af.length c2) bl :=
    FT_move _ _ _ _ _ _ HV.out fun j hj=>by
     have hj3:=HN1.out.2 j hj
     exact (Below.heap_setCell _ _ _ _ (by simp only;omega)).trans ((Below.heap_setCell _ _ _ _ (by simp only;omega)).trans ((Below.heap_setCell _ _ _ _ (by simp only;omega)).trans (Below.heap_setCell _ _ _ _ (by simp only;omega))))
   have HBZ:=Lib.hid hbz
   have HVZ:=Lib.hid hVz
   clear hbz hVz
   have HH:Hid (((((wr.setCell ⟨w.heap.size+1,0,none⟩ (.string an)).setCell ⟨w.heap.size+1,1,none⟩ (.int .u8 ak)).setCell ⟨w.heap.size+1,2,none⟩ (.string ad)).setCell ⟨w.heap.size+1,3,none⟩ (.slice A2 af.length c2)).heap[w.heap.size+1]? = some (.cells #[.string an,.int .u8 ak,.string ad,.slice A2 af.length c2] 25 (0,0))) :=
    Lib.hid (blk_put (cs:=#[.string an,.int .u8 ak,.string ad,.slice none 0 0]) (blk_put (cs:=#[.string an,.int .u8 ak,.string ⟨#[]⟩,.slice none 0 0]) (blk_put (cs:=#[.string an,.int .u8 0,.string ⟨#[]⟩,.slice none 0 0]) (blk_put (cs:=zC) HB1.out 0 _ rfl) 1 _ rfl) 2 _ rfl) 3 _ rfl)
   go_wp2_with fail
   refine bodyPost_ret (results_cell_row rfl _ _ (w.heap.size+1) 25 #[.string an,.int .u8 ak,.string ad,.slice A2 af.length c2] (0,0) _ rfl HH.out Tryz.underlying25 rfl (by kernel_rfl)) rfl ?_
   exact ⟨_,rfl,_,HVZ.out,HN1.out.1,HBZ.out⟩
end
section
def insF (l:List File) (x:File):List File:=if foundB l x.name=true then l.take (lowB l x.name)++x :: l.drop (lowB l x.name+1) else l.take (lowB l x.name)++x :: l.drop (lowB l x.name)
def delF (l:List File) (n:ByteArray):List File:=l.take (lowB l n)++l.drop (lowB l n+1)
def nameF (f:File) (n:ByteArray):File:={f with name:=n}
def putR (t:File) (q:List ByteArray) (n:ByteArray) (f:File):File×Int :=
 if rightT t=true then
  match goP t q with
  | (_,some d)=>if d.kind=1 then (if rightT (putP t q {d with files:=insF d.files (nameF f n)})=true then (putP t q {d with files:=insF d.files (nameF f n)},0) else (zeroF,30)) else (zeroF,32)
  | (k,none)=>(zeroF,k)
 else (zeroF,30)
def dropR (t:File) (q:List ByteArray) (n:ByteArray):File×Int :=
 if rightT t=true then
  match goP t (q++[n]) with
  | (_,some _)=>(match goP t q with
   | (_,some d)=>(putP t q {d with files:=delF d.files n},0)
   | (k,none)=>(zeroF,k))
  | (k,none)=>(zeroF,k)
 else (zeroF,30)
theorem bulkL_nil:bulkL []=0:=by simp [bulkL]
theorem bulkL_app:∀ (a b:List File),bulkL (a++b)=bulkL a+bulkL b
 | [],b=>by simp [bulkL_nil]
 | x :: a,b=>by rw [List.cons_append,bulkL_cons,bulkL_cons,bulkL_app a b];omega
theorem bulkL_cut (l:List File) (i:Nat):bulkL (l.take i)+bulkL (l.drop i)=bulkL l:=by rw [← bulkL_app,List.take_append_drop]
theorem bulkL_drop1 (l:List File) (i:Nat):bulkL (l.drop (i+1))≤bulkL (l.drop i):=by
 have h:=bulkL_cut (l.drop i) 1
 rw [List.drop_drop] at h
 omega
theorem bulk_ins (l:List File) (x:File):bulkL (insF l x)≤bulkL l+x.bulk:=by
 have h1:=bulkL_cut l (lowB l x.name)
 have h2:=bulkL_drop1 l (lowB l x.name)
 unfold insF
 split <;> rw [bulkL_app,bulkL_cons] <;> omega
theorem bulk_del (l:List File) (n:ByteArray):bulkL (delF l n)≤bulkL l:=by
 have h1:=bulkL_cut l (lowB l n)
 have h2:=bulkL_drop1 l (lowB l n)
 unfold delF
 rw [bulkL_app]
 omega
theorem bulk_with (d:File) (l:List File):({d with files:=l}:File).bulk+bulkL d.files=d.bulk+bulkL l:=by
 rw [bulk_eq,bulk_eq d]
 simp only
 omega
theorem bulk_putX {t d x:File} {q:List ByteArray} {k:Int} (h:goP t q=(k,some d)):(putP t q {d with files:=insF d.files x}).bulk≤t.bulk+x.bulk:=by
 have h1:=bulk_put q t {d with files:=insF d.files x} d k h
 have h2:=bulk_with d (insF d.files x)
 have h3:=bulk_ins d.files x
 omega
theorem bulk_dropX {t d:File} {q:List ByteArray} {n:ByteArray} {k:Int} (h:goP t q=(k,some d)):(putP t q {d with files:=delF d.files n}).bulk≤t.bulk:=by
 have h1:=bulk_put q t {d with files:=delF d.files n} d k h
 have h2:=bulk_with d (delF d.files n)
 have h3:=bulk_del d.files n
 omega
theorem bulk_name (f:File) (n:ByteArray):(nameF f n).bulk+f.name.size=f.bulk+n.size:=by
 rw [bulk_eq,bulk_eq f]
 simp only [nameF]
 omega
theorem set4_mid:∀ (i:Nat) (inner:List Value) (a b c d:Value),(i+1) * 4≤inner.length→((((inner.set (i * 4) a).set (i * 4+1) b).set (i * 4+2) c).set (i * 4+3) d)=inner.take (i * 4)++[a,b,c,d]++inner.drop ((i+1) * 4)
 | 0,x0 :: x1 :: x2 :: x3 :: r,a,b,c,d,_=>by simp
 | 0,[],_,_,_,_,h=>by simp at h
 | 0,[_],_,_,_,_,h=>by simp at h
 | 0,[_,_],_,_,_,_,h=>by simp at h
 | 0,[_,_,_],_,_,_,_,h=>by simp at h
 | i+1,x0 :: x1 :: x2 :: x3 :: r,a,b,c,d,h=>by
  have ih:=set4_mid i r a b c d (by simp at h;omega)
  rw [show (i+1) * 4=i * 4+1+1+1+1 by omega,show (i+1+1) * 4=(i+1) * 4+1+1+1+1 by omega]
  simp only [List.set_cons_succ,List.take_succ_cons,List.drop_succ_cons,List.cons_append]
  rw [ih]
 | i+1,[],_,_,_,_,h=>by simp at h
 | i+1,[_],_,_,_,_,h=>by simp at h;omega
 | i+1,[_,_],_,_,_,_,h=>by simp at h;omega
 | i+1,[_,_,_],_,_,_,_,h=>by simp at h;omega
end
end Go.Proofs.YthlcjjhfkldmhaaGreatDoor.G
end
section
section
namespace Go.Proofs.YthlcjjhfkldmhaaGreatDoor.G
open Go.RowKit Go.Lib Go.Proofs.YthlcjjhfkldmhaaGreatDoorW.PrintWords Go.Proofs.YthlcjjhfkldmhaaGreatDoorW.PrintLast
set_option linter.unusedVariables false
theorem low_name {l l':List File} (n:ByteArray) (h:l.map File.name=l'.map File.name):lowB l n=lowB l' n:=by
 have hh:∀ l:List File,lowB l n=((l.map File.name).takeWhile fun x=>lessB x n).length:=by
  intro l
  unfold lowB
  induction l with
  | nil=>rfl
  | cons x l ih =>
   simp only [List.map_cons,List.takeWhile_cons]
   split
   ·simp only [List.length_cons,ih]
   ·rfl
 rw [hh,hh,h]
theorem set_names {l:List File} {i:Nat} {x x':File} (hx:l[i]? = some x) (hn:x'.name=x.name):(l.set i x').map File.name=l.map File.name:=by
 apply List.ext_getElem?
 intro j
 rw [List.getElem?_map,List.getElem?_map,List.getElem?_set]
 split
 ·rename_i h
  subst h
  rw [if_pos (List.getElem?_eq_some_iff.1 hx).1,hx]
  simp [hn]
 ·rfl
theorem goP_full {f:File} {n:ByteArray} {q:List ByteArray} {d:File} {k:Int} (h:goP f (n :: q)=(k,some d)):∃ x,f.kind=1∧f.files[lowB f.files n]? = some x∧x.name=n∧goP x q=(k,some d):=by
 rw [goP] at h
 split at h
 ·rename_i hk
  split at h
  ·rename_i x hx
   split at h
   ·rename_i he
    exact ⟨x,hk,hx,toList_inj.1 (eq_of_beq he),h⟩
   ·cases h
  ·cases h
 ·cases h
theorem goP_mk {f:File} {n:ByteArray} {q:List ByteArray} {x:File} (hk:f.kind=1) (hx:f.files[lowB f.files n]? = some x) (hn:x.name=n):goP f (n :: q)=goP x q:=by
 rw [goP,if_pos hk,hx]
 simp only
 rw [if_pos (by rw [hn];simp)]
theorem goP_zero:∀ (q:List ByteArray) (f d:File) (k:Int),goP f q=(k,some d)→k=0
 | [],f,d,k,h=>by rw [goP] at h;injection h with h _;exact h.symm
 | n :: q,f,d,k,h=>by
  obtain ⟨x,_,_,_,hg⟩:=goP_full h
  exact goP_zero q x d k hg
theorem go_put:∀ (q:List ByteArray) (f y d:File),goP f q=(0,some d)→y.name=d.name→goP (putP f q y) q=(0,some y)
 | [],f,y,d,h,hn=>by rw [putP,goP]
 | n :: q,f,y,d,h,hn=>by
  obtain ⟨x,hk,hx,hxn,hg⟩:=goP_full h
  have ih:=go_put q x y d hg hn
  have hpn:=putP_name q x y d 0 hg hn
  have hl:lowB (f.files.set (lowB f.files n) (putP x q y)) n=lowB f.files n:=low_name n (set_names hx hpn)
  have hlt:=(List.getElem?_eq_some_iff.1 hx).1
  rw [putP,hx]
  show goP {f with files:=f.files.set (lowB f.files n) (putP x q y)} (n :: q)=_
  exact (goP_mk (f:={f with files:=f.files.set (lowB f.files n) (putP x q y)}) (x:=putP x q y) hk (by show (f.files.set (lowB f.files n) (putP x q y))[lowB (f.files.set (lowB f.files n) (putP x q y)) n]? = _;rw [hl,List.getElem?_set_self hlt]) (hpn.trans hxn)).trans ih
end Go.Proofs.YthlcjjhfkldmhaaGreatDoor.G
end
section
namespace Go.Proofs.YthlcjjhfkldmhaaGreatDoor.G
open Go.RowKit Go.Lib Go.Proofs.YthlcjjhfkldmhaaGreatDoorW.PrintWords Go.Proofs.YthlcjjhfkldmhaaGreatDoorW.PrintLast
set_option linter.unusedVariables false
theorem nameIs_iff {n:ByteArray} {x:File}:nameIs n x=true↔x.name=n:=by
 unfold nameIs
 constructor
 ·intro h
  exact toList_inj.1 (eq_of_beq h)
 ·intro h
  rw [h]
  exact beq_self_eq_true _
theorem nameIs_ne {n:ByteArray} {x:File} (h:x.name≠n):nameIs n x=false:=by
 cases hh:nameIs n x
 ·rfl
 ·exact absurd (nameIs_iff.1 hh) h
theorem low_less {l:List File} {n:ByteArray}:∀ x∈l.take (lowB l n),lessB x.name n=true:=by
 intro x hx
 unfold lowB at hx
 rw [← List.prefix_iff_eq_take.1 (List.takeWhile_prefix _)] at hx
 exact List.all_eq_true.1 (List.all_takeWhile (p:=fun x:File=>lessB x.name n) (l:=l)) x hx
theorem low_not {l:List File} {n:ByteArray} {x:File} (h:l[lowB l n]? = some x):lessB x.name n=false:=by
 have hd:l.drop (lowB l n)=l.dropWhile fun x=>lessB x.name n:=by
  unfold lowB
  have h1:=List.takeWhile_append_dropWhile (p:=fun x:File=>lessB x.name n) (l:=l)
  have h2:(l.takeWhile (fun x=>lessB x.name n)++l.dropWhile (fun x=>lessB x.name n)).drop (l.takeWhile fun x=>lessB x.name n).length=l.dropWhile fun x=>lessB x.name n:=List.drop_left
  rwa [h1] at h2
 have h2:(l.drop (lowB l n)).head? = some x:=by rw [List.head?_drop];exact h
 rw [hd] at h2
 have h3:=List.head?_dropWhile_not (fun x:File=>lessB x.name n) l
 rw [h2] at h3
 simpa using h3
theorem less_ne {a b:ByteArray} (h:lessB a b=true):a≠b:=fun e=>by
 rw [e,less_irrefl] at h
 cases h
theorem low_find {l:List File} (hs:SortedN l) (n:ByteArray):(match l[lowB l n]? with | some x=>if x.name.toList == n.toList then some x else none | none=>none)=l.find? (nameIs n):=by
 have hpre:∀ x∈l.take (lowB l n),nameIs n x=false:=fun x hx=>nameIs_ne (less_ne (low_less x hx))
 have hsp:l=l.take (lowB l n)++l.drop (lowB l n):=(List.take_append_drop _ _).symm
 have h1:l.find? (nameIs n)=(l.drop (lowB l n)).find? (nameIs n):=by
  conv=>lhs;rw [hsp]
  rw [List.find?_append,List.find?_eq_none.2 (fun x hx=>by simp [hpre x hx])]
  rfl
 rw [h1]
 cases hx:l[lowB l n]? with
 | none =>
  have hlen:=List.getElem?_eq_none_iff.1 hx
  rw [List.drop_of_length_le hlen]
  rfl
 | some x =>
  obtain ⟨hlt,hxe⟩:=List.getElem?_eq_some_iff.1 hx
  have hd:l.drop (lowB l n)=x :: l.drop (lowB l n+1):=by rw [List.drop_eq_getElem_cons hlt,hxe]
  rw [hd,List.find?_cons]
  change _=match nameIs n x with | true=>some x | false=>_
  simp only
  cases hnm:nameIs n x
  ·have h2:(x.name.toList == n.toList)=false:=hnm
   rw [if_neg (by rw [h2];decide)]
   symm
   simp only
   refine List.find?_eq_none.2 fun y hy => ?_
   have hxn:x.name≠n:=fun e=>by rw [nameIs_iff.2 e] at hnm;cases hnm
   have hnx:=less_total (low_not hx) hxn
   obtain ⟨j,hj,hyj⟩:=List.mem_iff_getElem.1 hy
   rw [List.getElem_drop] at hyj
   rw [List.length_drop] at hj
   have hxy:=sorted_lt hs (i:=lowB l n) (j:=lowB l n+1+j) (by omega) (by omega)
   rw [hxe,hyj] at hxy
   have:=less_ne (less_trans hnx hxy)
   simp [nameIs_ne (Ne.symm this)]
  ·have h2:(x.name.toList == n.toList)=true:=hnm
   rw [if_pos h2]
theorem goP_find {f:File} (hs:SortF f) (n:ByteArray) (p:List ByteArray):goP f (n :: p)=if f.kind=1 then (match f.files.find? (nameIs n) with | some x=>goP x p | none=>(31,none)) else (32,none):=by
 rw [SortF_eq] at hs
 rw [goP,← low_find hs.1 n]
 split
 ·cases f.files[lowB f.files n]? with
  | none=>rfl
  | some x=>simp only;split <;> rfl
 ·rfl
theorem go_app:∀ (q r:List ByteArray) (t d:File),goP t q=(0,some d)→goP t (q++r)=goP d r
 | [],r,t,d,h=>by
  rw [goP] at h
  injection h with _ h
  injection h with h
  rw [h]
  rfl
 | a :: q,r,t,d,h=>by
  obtain ⟨x,hk,hx,hn,hg⟩:=goP_full h
  rw [List.cons_append,goP_mk hk hx hn]
  exact go_app q r x d hg
theorem go_sort:∀ (q:List ByteArray) (t d:File) (k:Int),SortF t→goP t q=(k,some d)→SortF d
 | [],t,d,k,hs,h=>by
  rw [goP] at h
  injection h with _ h
  injection h with h
  exact h ▸ hs
 | a :: q,t,d,k,hs,h=>by
  obtain ⟨x,hk,hx,hn,hg⟩:=goP_full h
  rw [SortF_eq] at hs
  exact go_sort q x d k (SortL_mem.1 hs.2 _ (List.mem_of_getElem? hx)) hg
theorem ins_shape (l:List File) (x:File):∃ r,insF l x=l.take (lowB l x.name)++x :: r∧(r=if foundB l x.name=true then l.drop (lowB l x.name+1) else l.drop (lowB l x.name)):=by
 unfold insF
 split
 ·exact ⟨_,rfl,rfl⟩
 ·exact ⟨_,rfl,rfl⟩
theorem ins_at (l:List File) (x:File):(insF l x)[lowB l x.name]? = some x:=by
 obtain ⟨r,h,_⟩:=ins_shape l x
 have hl:(l.take (lowB l x.name)).length=lowB l x.name:=by rw [List.length_take,Nat.min_eq_left (low_le _ _)]
 rw [h,List.getElem?_append_right (by omega),hl,Nat.sub_self]
 rfl
theorem found_at {l:List File} {n:ByteArray} (h:foundB l n=true):∃ y,l[lowB l n]? = some y∧y.name=n:=by
 unfold foundB at h
 cases hx:l[lowB l n]? with
 | none=>rw [hx] at h;cases h
 | some y=>rw [hx] at h;exact ⟨y,rfl,toList_inj.1 (eq_of_beq h)⟩
theorem find_ins (l:List File) (x:File) (m:ByteArray) (hm:x.name≠m):(insF l x).find? (nameIs m)=l.find? (nameIs m):=by
 obtain ⟨r,h,hr⟩:=ins_shape l x
 rw [h,List.find?_append,List.find?_cons,nameIs_ne hm]
 simp only
 rw [← List.find?_append,hr]
 split
 ·rename_i hf
  obtain ⟨y,hy,hyn⟩:=found_at hf
  obtain ⟨hlt,hye⟩:=List.getElem?_eq_some_iff.1 hy
  have hd:l.drop (lowB l x.name)=y :: l.drop (lowB l x.name+1):=by rw [List.drop_eq_getElem_cons hlt,hye]
  conv=>rhs;rw [← List.take_append_drop (lowB l x.name) l]
  rw [hd,List.find?_append,List.find?_append,List.find?_cons,nameIs_ne (hyn ▸ hm)]
 ·rw [List.take_append_drop]
theorem find_set {p:File→Bool}:∀ {l:List File} {i:Nat} {x x':File},l[i]? = some x→p x=false→p x'=false→(l.set i x').find? p=l.find? p
 | [],i,x,x',h,_,_=>by simp at h
 | y :: l,0,x,x',h,h1,h2=>by
  obtain rfl:y=x:=by simpa using h
  rw [List.set_cons_zero,List.find?_cons,List.find?_cons,h1,h2]
 | y :: l,i+1,x,x',h,h1,h2=>by
  rw [List.set_cons_succ,List.find?_cons,List.find?_cons,find_set (by simpa using h) h1 h2]
theorem go_none0:∀ {p:List ByteArray} {t:File},goP t p≠(0,none)
 | [],t,h=>by
  rw [goP] at h
  injection h with _ h
  cases h
 | n :: p,t,h=>by
  rw [goP] at h
  split at h
  ·split at h
   ·split at h
    ·exact go_none0 h
    ·injection h with h _
     cases h
   ·injection h with h _
    cases h
  ·injection h with h _
   cases h
end Go.Proofs.YthlcjjhfkldmhaaGreatDoor.G
end
end
section
section
namespace Go.Proofs.YthlcjjhfkldmhaaGreatDoor.G
open Go.RowKit Go.Lib Go.Proofs.YthlcjjhfkldmhaaGreatDoorW.PrintWords Go.Proofs.YthlcjjhfkldmhaaGreatDoorW.PrintLast
set_option linter.unusedVariables false
set_option linter.unusedSimpArgs false
def bp (n m:Nat):Array Bool:=((List.range n).map (fun j=>m.testBit j)).toArray
theorem Reach_below {w w':World} (hb:Below w.heap.size w w'):∀ {p:List ByteArray} {ad:Addr} {f:File} {ad':Addr} {y:File},Reach w ad f p ad' y→Reach w' ad f p ad' y
 | [],_,_,_,_,h=>h
 | n :: p,ad,f,ad',y,⟨b,c,x,h1,h2,h3⟩=>⟨b,c,x,(hb.cell (World.block_lt_of_cell? w _ h1)).trans h1,h2,Reach_below hb h3⟩
theorem cell_same {W W':World} {g:Nat} (h:W.heap[g]? = W'.heap[g]?) (j:Nat):W.cell? ⟨g,j,none⟩=W'.cell? ⟨g,j,none⟩:=by simp [World.cell?,h]
theorem three_all (w:World) (cs ds es:Array Value) (t u v:TypeId):(((w.alloc (.cells cs t)).alloc (.cells ds u)).alloc (.cells es v)).heap[w.heap.size]? = some (.cells cs t (0,0))∧(((w.alloc (.cells cs t)).alloc (.cells ds u)).alloc (.cells es v)).heap[w.heap.size+1]? = some (.cells ds u (0,0))∧(((w.alloc (.cells cs t)).alloc (.cells ds u)).alloc (.cells es v)).heap[w.heap.size+2]? = some (.cells es v (0,0)) :=
 ⟨(Below.heap_alloc _ _ _ (by simp;omega)).trans (two_boxes w cs ds t u).1,(Below.heap_alloc _ _ _ (by simp)).trans (two_boxes w cs ds t u).2,three_boxes w cs ds es t u v⟩
set_option maxHeartbeats 8000000 in
set_option maxRecDepth 100000 in
theorem put_calls (t f:File) (A Af:Option Addr) (c cf:Nat) (Ap:Option Addr) (cp:Nat) (q:List ByteArray) (n:ByteArray) (w:World) (hr:FileK.C w A t.files.length t.files) (hc:t.files.length≤c) (hbt:t.bulk≤1000000000) (hf:FileK.C w Af f.files.length f.files) (hcf:f.files.length≤cf) (hbf:f.bulk≤1000000000) (hn:n.size≤1000000000) (hp:Kd.C Kd.string w Ap (q++[n]).length (q++[n])) (hcp:q.length+1≤cp) (hpl:q.length≤1000000000) :
  Calls Tryz.prog 115 #[fileV t A c,.slice Ap (q.length+1) cp,fileV f Af cf] w fun e w'=>∃ A' c',e=.returned (.tuple #[.agg #[.string (putR t q n f).1.name,.int .u8 (putR t q n f).1.kind,.string (putR t q n f).1.data,.slice A' (putR t q n f).1.files.length c'],.int .i64 (putR t q n f).2])∧(putR t q n f).1.files.length≤c'∧(∀ W':World,(∀ k,w.heap.size≤k→k<w'.heap.size→W'.heap[k]? = w'.heap[k]?)→FileK.C W' A' (putR t q n f).1.files.length (putR t q n f).1.files)∧Below w.heap.size w w':=by
 have h3:=three_all w (fc t A c) (fc f Af cf) zC 25 25 25
 have hb0:=(((Below.refl w.heap.size w).alloc (Nat.le_refl _) (.cells (fc t A c) 25)).alloc (by simp) (.cells (fc f Af cf) 25)).alloc (by simp;omega) (.cells zC 25)
 have HP:=Lib.hid hp
 have HT:=Lib.hid hr
 have HF:=Lib.hid hf
 have HGR:Hid (putR t q n f=if rightT t=true then (match goP t q with
   | (_,some d)=>if d.kind=1 then (if rightT (putP t q {d with files:=insF d.files (nameF f n)})=true then (putP t q {d with files:=insF d.files (nameF f n)},0) else (zeroF,30)) else (zeroF,32)
   | (k,none)=>(zeroF,k)) else (zeroF,30)):=Lib.hid rfl
 generalize putR t q n f=gr at *
 have HRT:=Lib.hid (fun W (h:Below w.heap.size w W)=>(show Calls Tryz.prog 38 #[.agg (fc t A c)] W _ from right_calls t A c W (by omega) (Kd.C_below hr h) hc))
 have HCP:=Lib.hid (fun W (h:Below w.heap.size w W)=>(show Calls Tryz.prog 21 #[.agg (fc t A c)] W _ from copy_apart t.bulk t A c W (Nat.le_refl _) (by omega) (Kd.C_below hr h) hc))
 have HCF:=Lib.hid (fun W (h:Below w.heap.size w W)=>(show Calls Tryz.prog 21 #[.agg (fc f Af cf)] W _ from copy_apart f.bulk f Af cf W (Nat.le_refl _) (by omega) (Kd.C_below hf h) hcf))
 have HQ:=Lib.hid (show Kd.C Kd.string w Ap q.length q from by
  have h1:=Kd.C_take hp (m:=q.length) (by simp)
  rwa [List.take_left'  rfl] at h1)
 have HGC:=Lib.hid (fun W ad A' c' (h:Below w.heap.size w W) h1 h2=>get_calls t ad A' c' Ap cp q W h1 (by omega) h2 (Kd.C_below HQ.out h) (by omega) (by omega))
 have H1:=Lib.hid h3.1
 have H2:=Lib.hid h3.2.1
 have H3:=Lib.hid h3.2.2
 obtain ⟨t0,t1,t2,t3⟩:=c4A h3.1
 have hk1:((q.length:Int)+1 - 1)=(q.length:Int):=by omega
 clear hp hr hf h3
 go_enter Tryz.func115,Tryz.ntmps115
 unfold fileV
 go_wp2_with fail
 generalize (((w.alloc (.cells (fc t A c) 25)).alloc (.cells (fc f Af cf) 25)).alloc (.cells zC 25))=W0 at *
 have hz0:=blk_lt H3.out
 refine (HRT.out _ hb0).mono ?_
 rintro e w1 ⟨rfl,hb1'⟩
 have hs1:=hb1'.size
 have hb1:=bstep hb0 hb0.size hb1'
 have H11:=Lib.hid ((hb1'.block _ (blk_lt H1.out)).trans H1.out)
 have H21:=Lib.hid ((hb1'.block _ (blk_lt H2.out)).trans H2.out)
 have HZ1:=Lib.hid ((hb1'.block _ (blk_lt H3.out)).trans H3.out)
 clear t0 t1 t2 t3
 cases hrt:rightT t
 ·have HG:Hid (gr=(zeroF,30)):=Lib.hid (by rw [HGR.out,if_neg (by rw [hrt];decide)])
  have HZ9:=Lib.hid (store4_box HZ1.out (.string ⟨#[]⟩) (.int .u8 0) (.string ⟨#[]⟩) (.slice none 0 0))
  have HB9:=Lib.hid (store4_below hb1 (g:=w.heap.size+2) (by omega) (.string ⟨#[]⟩) (.int .u8 0) (.string ⟨#[]⟩) (.slice none 0 0))
  obtain ⟨z0,z1,z2,z3⟩:=c4A HZ1.out
  have u0:=unfr HZ1.out 0
  have u1:=unfr HZ1.out 1
  have u2:=unfr HZ1.out 2
  have u3:=unfr HZ1.out 3
  go_wp2_with fail
  refine bodyPost_ret (results_ct rfl _ _ (w.heap.size+2) 25 zC (0,0) _ rfl HZ9.out Tryz.underlying25 rfl (by kernel_rfl)) rfl ?_
  rw [HG.out]
  exact ⟨none,0,rfl,Nat.le_refl _,fun _ _=>Kd.C_nil FileK _,HB9.out⟩
 ·have HG1:=HGR.out
  rw [if_pos hrt] at HG1
  have HG2:=Lib.hid HG1
  have HS:=Lib.hid (right_sort hrt)
  clear HG1
  obtain ⟨t0,t1,t2,t3⟩:=c4A H11.out
  go_wp2_with fail
  refine (HCP.out _ hb1).mono ?_
  rintro e w2 ⟨v,bl,rfl,hft,hnd,hb2'⟩
  have hs2:=hb2'.size
  have hb2:=bstep hb1 hb1.size hb2'
  have H22:=Lib.hid ((hb2'.block _ (blk_lt H21.out)).trans H21.out)
  have HZ2:=Lib.hid ((hb2'.block _ (blk_lt HZ1.out)).trans HZ1.out)
  have hz1:=blk_lt HZ1.out
  clear t0 t1 t2 t3
  obtain ⟨A1,c1,rfl,hc1,hC1⟩:=FT_reads _ _ _ _ _ hft
  have hba:Below w2.heap.size w2 (w2.alloc (.cells (fc t A1 c1) 25)):=below_alloc (Below.refl _ _) _
  have HH3:Hid (HeldC w2.heap.size w1.heap.size t (.slice A1 t.files.length c1) bl (w2.alloc (.cells (fc t A1 c1) 25))):=Lib.hid ⟨blk_new w2 _,FT_below hft hba,hnd,fun k hk e=>by have:=(FT_lt _ _ _ _ _ hft k hk).1;omega⟩
  have hb3:=bstep hb2 hb2.size hba
  have H23:=Lib.hid ((hba.block _ (blk_lt H22.out)).trans H22.out)
  have HZ3:=Lib.hid ((hba.block _ (blk_lt HZ2.out)).trans HZ2.out)
  have HBL2:=Lib.hid (FT_lt _ _ _ _ _ hft)
  clear hft hnd hC1 hba
  go_wp2_with fail
  generalize w2.alloc (.cells (fc t A1 c1) 25)=W3 at *
  have hz3:=blk_lt HH3.out.box
  obtain ⟨A2,c2,he2,hat2⟩:=HH3.out.at
  injection he2 with e1 _ e2
  subst e1
  subst e2
  refine (HGC.out W3 _ _ _ hb3 hat2 HS.out).mono ?_
  clear hat2
  rintro e w4 ⟨hb4',⟨ad',d,A',c',hgo,rfl,hat,hre,hdb,hds⟩ | ⟨k,hk0,hgo,rfl⟩⟩
  rotate_left
  ·have HG:Hid (gr=(zeroF,k)):=Lib.hid (by rw [HG2.out,hgo])
   have k1:(k != 0)=true:=by rw [bne_iff_ne];exact hk0
   have hs4:=hb4'.size
   have hb4:=bstep hb3 hb3.size hb4'
   have HZ4:=Lib.hid ((hb4'.block _ (blk_lt HZ3.out)).trans HZ3.out)
   clear hgo
   have HZ9:=Lib.hid (store4_box HZ4.out (.string ⟨#[]⟩) (.int .u8 0) (.string ⟨#[]⟩) (.slice none 0 0))
   have HB9:=Lib.hid (store4_below hb4 (g:=w.heap.size+2) (by omega) (.string ⟨#[]⟩) (.int .u8 0) (.string ⟨#[]⟩) (.slice none 0 0))
   obtain ⟨z0,z1,z2,z3⟩:=c4A HZ4.out
   have u0:=unfr HZ4.out 0
   have u1:=unfr HZ4.out 1
   have u2:=unfr HZ4.out 2
   have u3:=unfr HZ4.out 3
   go_wp2_with fail
   refine bodyPost_ret (results_ct rfl _ _ (w.heap.size+2) 25 zC (0,0) _ rfl HZ9.out Tryz.underlying25 rfl (by kernel_rfl)) rfl ?_
   rw [HG.out]
   exact ⟨none,0,rfl,Nat.le_refl _,fun _ _=>Kd.C_nil FileK _,HB9.out⟩
  ·have hg2:=HG2.out
   rw [hgo] at hg2
   simp only at hg2
   have hs4:=hb4'.size
   have hb4:=bstep hb3 hb3.size hb4'
   have H24:=Lib.hid ((hb4'.block _ (blk_lt H23.out)).trans H23.out)
   have HZ4:=Lib.hid ((hb4'.block _ (blk_lt HZ3.out)).trans HZ3.out)
   have HH4:=Lib.hid (HH3.out.below hb4')
   have x1:=(hb4'.cell (World.block_lt_of_cell? _ _ hat.c1)).trans hat.c1
   have HRE:=Lib.hid (Reach_below hb4' hre)
   have HGO:=Lib.hid hgo
   have HAT:=Lib.hid (⟨(hb4'.cell (World.block_lt_of_cell? _ _ hat.c3)).trans hat.c3,hat.le,Kd.C_below hat.ch hb4'⟩:w4.cell? ⟨ad'.block,ad'.off+3,none⟩=some (.slice A' d.files.length c')∧d.files.length≤c'∧FileK.C w4 A' d.files.length d.files)
   have HDS:=Lib.hid hds
   clear hgo hat hre hds
   by_cases hk:d.kind=1
   rotate_left
   ·rw [if_neg hk] at hg2
    have HG:=Lib.hid hg2
    have k1:(d.kind != 1)=true:=by rw [bne_iff_ne];exact hk
    clear hg2 hk
    have HZ9:=Lib.hid (store4_box HZ4.out (.string ⟨#[]⟩) (.int .u8 0) (.string ⟨#[]⟩) (.slice none 0 0))
    have HB9:=Lib.hid (store4_below hb4 (g:=w.heap.size+2) (by omega) (.string ⟨#[]⟩) (.int .u8 0) (.string ⟨#[]⟩) (.slice none 0 0))
    obtain ⟨z0,z1,z2,z3⟩:=c4A HZ4.out
    have u0:=unfr HZ4.out 0
    have u1:=unfr HZ4.out 1
    have u2:=unfr HZ4.out 2
    have u3:=unfr HZ4.out 3
    go_wp2_with fail
    refine bodyPost_ret (results_ct rfl _ _ (w.heap.size+2) 25 zC (0,0) _ rfl HZ9.out Tryz.underlying25 rfl (by kernel_rfl)) rfl ?_
    rw [HG.out]
    exact ⟨none,0,rfl,Nat.le_refl _,fun _ _=>Kd.C_nil FileK _,HB9.out⟩
   ·rw [if_pos hk] at hg2
    have HG3:=Lib.hid hg2
    clear hg2
    obtain ⟨f0,f1,f2,f3⟩:=c4A H24.out
    go_wp2_with fail
    refine (HCF.out _ hb4).mono ?_
    rintro e w5 ⟨vx,bz,rfl,hfx,hzn,hb5'⟩
    have hs5:=hb5'.size
    have hb5:=bstep hb4 hb4.size hb5'
    have H25:=Lib.hid ((hb5'.block _ (blk_lt H24.out)).trans H24.out)
    have HZ5:=Lib.hid ((hb5'.block _ (blk_lt HZ4.out)).trans HZ4.out)
    have HH5:=Lib.hid (HH4.out.below hb5')
    have HRE5:=Lib.hid (Reach_below hb5' HRE.out)
    have HBZ:=Lib.hid (FT_lt _ _ _ _ _ hfx)
    clear f0 f1 f2 f3
    obtain ⟨A3,c3,rfl,hc3,hC3⟩:=FT_reads _ _ _ _ _ hfx
    clear hC3
    have hb57:Below w5.heap.size w5 (w5.alloc (.cells #[.string n,.int .u8 f.kind,.string f.data,.slice A3 f.files.length c3] 25)):=below_alloc (Below.refl _ _) _
    have hb6:=bstep hb5 hb5.size (below_alloc (Below.refl w5.heap.size w5) (.cells (fc f A3 c3) 25))
    have HXB6:=Lib.hid (blk_new w5 (.cells (fc f A3 c3) 25))
    have HXB7:=Lib.hid (blk_new w5 (.cells #[.string n,.int .u8 f.kind,.string f.data,.slice A3 f.files.length c3] 25))
    have hs7:(w5.alloc (.cells #[.string n,.int .u8 f.kind,.string f.data,.slice A3 f.files.length c3] 25)).heap.size=w5.heap.size+1:=by simp
    obtain ⟨pad,rfl,hx⟩:=Kd.at_string HP.out (q.length:Int) (by omega) (by simp;omega)
    rw [Int.toNat_natCast] at hx
    have he:rdOf ByteArray.empty (q++[n]) (q.length:Int)=n:=by simp [rdOf]
    rw [he] at hx
    clear he
    have p0:=cell_of (j:=0) HXB6.out rfl
    have pf0:=unfr HXB6.out 0
    have hx6:=(hb6.cell (World.block_lt_of_cell? w _ hx)).trans hx
    clear hx
    go_wp2_with fail
    clear p0 pf0 hx6
    generalize w5.alloc (.cells #[.string n,.int .u8 f.kind,.string f.data,.slice A3 f.files.length c3] 25)=W7 at *
    have hb7:=bstep hb5 hb5.size hb57
    have HZ7:=Lib.hid ((hb57.block _ (blk_lt HZ5.out)).trans HZ5.out)
    have HH7:=Lib.hid (HH5.out.below hb57)
    have HRE7:=Lib.hid (Reach_below hb57 HRE5.out)
    have HFX7:=Lib.hid (FT_below hfx hb57)
    clear hfx hb6 HXB6
    obtain ⟨g,o,v',inner,bs,rfl,hc,⟨gcs,hgc⟩,hgm,ho,hL,hN,hbs,hvb,hT⟩:=turnC HH7.out HRE7.out
    have y3:W7.cell? ⟨g,o+3,none⟩=some (.slice A' d.files.length c'):=by
     have h1:=HAT.out.1
     have h2:=(hb5'.cell (World.block_lt_of_cell? _ _ h1)).trans h1
     exact (hb57.cell (World.block_lt_of_cell? _ _ h2)).trans h2
    obtain rfl:v'=.slice A' d.files.length c':=by
     rw [y3] at hc
     injection hc with hc
     exact hc.symm
    have yn:W7.drew.cell? ⟨w5.heap.size,0,none⟩=some (.string n):=cell_of (j:=0) HXB7.out rfl
    have hss:=HDS.out
    rw [SortF_eq] at hss
    have hdl:=bulkL_len d.files
    have hde:=bulk_eq d
    have HFI:=Lib.hid (fun W (h:Below W7.heap.size W7 W)=>find_calls A' c' d.files n W (Kd.C_below (Kd.C_below (Kd.C_below HAT.out.2.2 hb5') hb57) h) HAT.out.2.1 (by omega) hss.1)
    have HT9:=Lib.hid hT
    have HO9:=Lib.hid ho
    have HL9:=Lib.hid hL
    have HVB:=Lib.hid hvb
    have HBS:=Lib.hid hbs
    have hdl2:d.files.length≤1000000000:=by omega
    clear hT ho hL hvb hbs hss hdl hde hc
    have y3d:W7.drew.cell? ⟨g,o+3,none⟩=some (.slice A' d.files.length c'):=y3
    go_region_with (go_at_call 126;refine (HFI.out _ (bdrew (Below.refl _ _))).mono ?_;rintro e w8 ⟨rfl,hb8'⟩)
    all_goals
     have hb8:Below W7.heap.size W7 w8:=(bdrew (Below.refl W7.heap.size W7)).trans hb8'
     have hs8:=hb8.size
     have hz7:=blk_lt HZ7.out
     have hxb7:=blk_lt HXB7.out
     have hgl:g<W7.heap.size:=blk_lt hgc
     have HZ8:=Lib.hid ((hb8.block _ hz7).trans HZ7.out)
     have HXB8:=Lib.hid ((hb8.block _ hxb7).trans HXB7.out)
     have HGC8:=Lib.hid ((hb8.block _ hgl).trans hgc)
     have y38:w8.cell? ⟨g,o+3,none⟩=some (.slice A' d.files.length c'):=(hb8.cell (p:=⟨g,o+3,none⟩) hgl).trans y3
     have hb8w:=bstep hb7 hb7.size hb8
     have htbl:=blk_lt HH7.out.box
     have hbW1:∀ k∈bl,k<w2.heap.size∧w1.heap.size≤k:=HBL2.out
     have hs8d:w8.drew.heap.size=w8.heap.size:=rfl
     have Y3:=Lib.hid y3
     have hFN:FT w1.heap.size (nameF f n) W7 (.slice A3 f.files.length c3) bz:=by
      have h1:=FT_lower (B':=w1.heap.size) (by omega) _ _ _ _ HFX7.out
      rw [FT_eq] at h1 ⊢
      exact h1
     have HFN:=Lib.hid hFN
     clear y3 y3d yn hb8' hFN
     cases hfb:foundB d.files n
     ·obtain ⟨i,hi⟩:∃ i,lowB d.files n=i:=⟨_,rfl⟩
      have hil:=low_le d.files n
      rw [hi] at hil
      have HI9:=Lib.hid hi
      have HFB:=Lib.hid hfb
      rw [hi]
      have ho8:w8.drew.ownsRow w1.heap.size 25 4 (.slice A' d.files.length c') d.files.length inner:=own_move HO9.out fun k hk=>hb8.block k (own_lt HO9.out k hk)
      have HINS:Hid (Calls Tryz.prog 128 #[.slice A' d.files.length c',.int .i64 i,.slice (some ⟨w8.heap.size,0,none⟩) 1 1] (w8.drew.alloc (.cells #[.string n,.int .u8 f.kind,.string f.data,.slice A3 f.files.length c3] 25)) _):=Lib.hid (insert_calls (.slice A' d.files.length c') d.files.length inner [.string n,.int .u8 f.kind,.string f.data,.slice A3 f.files.length c3] i w1.heap.size w8.drew ho8 (by omega) hil rfl (by intro u hu;simp only [List.mem_cons,List.not_mem_nil,or_false] at hu;rcases hu with rfl | rfl | rfl | rfl <;> rfl) (LT_one' _ _ _ _ HL9.out) (by omega))
      have hba:=below_alloc (Below.refl w8.drew.heap.size w8.drew) (.cells #[.string n,.int .u8 f.kind,.string f.data,.slice A3 f.files.length c3] 25)
      have y3a:=(hba.cell (p:=⟨g,o+3,none⟩) (by simp only;omega)).trans y38
      have HXBa:=Lib.hid ((hba.block w5.heap.size (by omega)).trans HXB8.out)
      clear hi hfb ho8 hba
      go_wp2_with fail
      refine start_ (n:=12) (S:=fun w'=>w'.cell? ⟨g,o+3,none⟩=some (.slice A' d.files.length c')∧w'.heap[w5.heap.size]? = some (.cells #[.string n,.int .u8 f.kind,.string f.data,.slice A3 f.files.length c3] 25 (0,0))) (ds:=[11]) (bp 12 0) (by kernel_rfl) rfl rfl ⟨y38,HXB8.out⟩ (fun hHeld => ?_)
      refine pA 0 70 (bp 12 1) ?_
      refine pA 1 71 (bp 12 3) ?_
      refine pA 2 72 (bp 12 7) ?_
      refine pA 3 73 (bp 12 15) ?_
      refine pA 5 75 (bp 12 47) ?_
      refine tA 4 74 (bp 12 63) hHeld ?_ (hy:=by
       rintro w' ⟨s0,s1⟩
       go_simp
       with_reducible rfl)
      refine tA 6 76 (bp 12 127) hHeld ?_ (hy:=by
       rintro w' ⟨s0,s1⟩
       have q0:=cell_of (j:=0) s1 rfl
       have q1:=cell_of (j:=1) s1 rfl
       have q2:=cell_of (j:=2) s1 rfl
       have q3:=cell_of (j:=3) s1 rfl
       go_simp
       with_reducible rfl)
      refine eA 7 77 (bp 12 255) (fun K hK => ?_)
      refine vA ?_
      refine hK.out _ _ ⟨y3a,HXBa.out⟩ (fun hHeld => ?_)
      refine nA 77 ?_
      refine eA 8 78 (bp 12 511) (fun K hK => ?_)
      refine gA Tryz.func128 #[.slice A' d.files.length c',.int .i64 i,.slice (some ⟨w8.heap.size,0,none⟩) 1 1] ?_
      refine HINS.out.mono ?_
      rintro e w9 ⟨v2,rfl,hown9,hon9,hor9⟩
      refine ⟨_,rfl,?_⟩
      have HOWN9:=Lib.hid hown9
      have HON9:=Lib.hid hon9
      have HOR9:=Lib.hid hor9
      have hgr:¬ ((Value.slice A' d.files.length c').ownBlock=some g):=fun e=>(HVB.out g e).2.1 rfl
      have hgx:¬ ((Value.slice A' d.files.length c').ownBlock=some w5.heap.size):=fun e=>by have:=(HBL2.out _ (HVB.out _ e).1).1;omega
      have hs89:=hon9.size
      have hs8d:w8.drew.heap.size=w8.heap.size:=rfl
      have HG9:=Lib.hid (hon9.block g (by omega) hgr)
      have HX9:=Lib.hid ((hon9.block w5.heap.size (by omega) hgx).trans HXB8.out)
      have y39:w9.cell? ⟨g,o+3,none⟩=some (.slice A' d.files.length c'):=(cell_same (HG9.out) (o+3)).trans y38
      have yf9:w9.frozen? ⟨g,o+3,none⟩=false:=unfr (HG9.out.trans HGC8.out) (o+3)
      obtain ⟨A2',c2',rfl⟩:=own_slice hown9
      clear hown9 hon9 hor9 hHeld
      refine hK.out _ _ ⟨y39,HX9.out⟩ (fun hHeld => ?_)
      refine nA 78 ?_
      refine pA 9 79 (bp 12 1023) ?_
      refine pA 10 80 (bp 12 2047) ?_
      refine last_ (i:=11) (N:=none) (bp 12 4095) rfl rfl (by kernel_rfl) (by decide) (fun K hK => ?_)
      refine sA ?_
      refine hK.out _ _ ?_
      refine done_ (by kernel_rfl) ?_
      have hO9:Only (fun k=>k=g∨(Value.slice A' d.files.length c').ownBlock=some k) w8 (w9.setCell ⟨g,o+3,none⟩ (.slice A2' (d.files.length+1) c2')) :=
       ((Only.refl (fun k=>k=g) w8).drew.trans HON9.out (fun k _ h=>.inl h) (fun k _ h=>.inr h)).trans (Only.setCell w9 ⟨g,o+3,none⟩ _) (fun k _ h=>h) (fun k _ h=>.inl h)
      obtain ⟨g2,hg2⟩:∃ g2,(Value.slice A2' (d.files.length+1) c2').ownBlock=some g2:=by
       rcases HOWN9.out.2 with ⟨_,h0⟩ | ⟨g',cap,cur,hvv,_⟩
       ·omega
       ·exact ⟨g',by rw [hvv];rfl⟩
      have hor2:(Value.slice A' d.files.length c').ownBlock=some g2∨W7.heap.size≤g2:=by
       rcases HOR9.out with h | ⟨N,h,hN⟩
       ·exact .inl (h.symm.trans hg2)
       ·rw [hg2] at h
        injection h with h
        exact .inr (by rw [h];omega)
      have hg2g:g2≠g:=fun e=>by
       rcases hor2 with h | h
       ·exact (HVB.out g2 h).2.1 e
       ·omega
      have hrow9:(w9.setCell ⟨g,o+3,none⟩ (.slice A2' (d.files.length+1) c2')).ownsRow w1.heap.size 25 4 (.slice A2' (d.files.length+1) c2') (d.files.length+1) (putCs inner [.string n,.int .u8 f.kind,.string f.data,.slice A3 f.files.length c3] i) :=
       own_move HOWN9.out fun k hk=>Below.heap_setCell _ _ _ _ (fun e=>hg2g (by rw [hg2] at hk;injection hk with hk;exact hk.trans e))
      have hgW:(w9.setCell ⟨g,o+3,none⟩ (.slice A2' (d.files.length+1) c2')).heap[g]? = (W7.setCell ⟨g,o+3,none⟩ (.slice A2' (d.files.length+1) c2')).heap[g]? := setCell_same ⟨g,o+3,none⟩ _ (HG9.out.trans (hb8.block g hgl))
      have hlow:∀ k,(k=g∨(Value.slice A' d.files.length c').ownBlock=some k)→w1.heap.size≤k:=by
       rintro k (e | e)
       ·rcases hgm with h | h
        ·omega
        ·have:=(hbW1 g h).2
         omega
       ·exact (hbW1 _ (HVB.out _ e).1).2
      have HZ9w:=Lib.hid ((hO9.block (w.heap.size+2) (by omega) (fun e=>by have:=hlow _ e;omega)).trans HZ8.out)
      have hb9:=hb8w.trans (hO9.below (B:=w.heap.size) (by omega) (fun k hk e=>by have:=hlow _ e;omega))
      have HTT:∃ v3 bl2,HeldC w2.heap.size w1.heap.size (putP t q {d with files:=insF d.files (nameF f n)}) v3 bl2 (w9.setCell ⟨g,o+3,none⟩ (.slice A2' (d.files.length+1) c2'))∧∀ k∈bl2,k∈bl∨k∈bz∨W7.heap.size≤k:=by
       obtain ⟨b1,b2,hbb,hLI⟩:=LT_ins i HL9.out HFN.out
       have hins:insF d.files (nameF f n)=d.files.take i++nameF f n :: d.files.drop i:=by
        unfold insF
        rw [show foundB d.files (nameF f n).name=false from HFB.out,if_neg (by decide),show lowB d.files (nameF f n).name=i from HI9.out]
       rw [hins]
       refine HT9.out _ _ _ _ b1 [] b2 bz g2 hLI hbb hzn (fun k hk=>⟨?_,fun e => ?_,?_⟩) (fun k hk h1 h2 => ?_) hgW ?_ hg2 hor2
       ·have:=(HBZ.out k hk).2
        omega
       ·have h4:=(HBZ.out k hk).2
        have h6:=(hbW1 k e).1
        omega
       ·have:=(HBZ.out k hk).1
        omega
       ·have hk7:k<W7.heap.size:=by
         rcases hk with rfl | h | h
         ·exact htbl
         ·have:=(hbW1 k h).1
          omega
         ·have:=(HBZ.out k h).1
          omega
        exact (hO9.block k (by omega) (fun e=>e.elim h1 h2)).trans (hb8.block k hk7)
       ·have hlen:(d.files.take i++nameF f n :: d.files.drop i).length=d.files.length+1:=by
         rw [List.length_append,List.length_cons,List.length_take,List.length_drop]
         omega
        rw [hlen]
        exact hrow9
      clear HINS y39 yf9 hrow9 hgW hO9 HOWN9 HON9 HOR9 HG9 HX9 hor2 hg2
      generalize w9.setCell ⟨g,o+3,none⟩ (.slice A2' (d.files.length+1) c2')=W9 at *
      obtain ⟨v3,bl2,hH9,hs9⟩:=HTT
      clear hs9
      have hub:(putP t q {d with files:=insF d.files (nameF f n)}).bulk≤4000000000:=by
       have h1:=bulk_putX (x:=nameF f n) HGO.out
       have h2:=bulk_name f n
       omega
      have HG4:=Lib.hid HG3.out
      generalize putP t q {d with files:=insF d.files (nameF f n)}=u at *
      obtain ⟨A9,c9,rfl,hat9⟩:=hH9.at
      have HH9:=Lib.hid hH9
      have HAT9:=Lib.hid hat9
      have r0:=hat9.c0
      have r1:=hat9.c1
      have r2:=hat9.c2
      have r3:=hat9.c3
      have HRT9:=Lib.hid (show Calls Tryz.prog 38 #[.agg (fc u A9 c9)] W9 _ from right_calls u A9 c9 W9 (by omega) hat9.ch hat9.le)
      clear hH9 hat9 HT9 HO9 HL9 HVB HBS HFI HCP HCF HGC
      go_wp2_with fail
      refine HRT9.out.mono ?_
      rintro e w10 ⟨rfl,hb10'⟩
      have hs10:=hb10'.size
      have hb10:=bstep hb9 hb9.size hb10'
      have HZ10:=Lib.hid ((hb10'.block _ (blk_lt HZ9w.out)).trans HZ9w.out)
      have HH10:=Lib.hid (HH9.out.below hb10')
      clear r0 r1 r2 r3
      cases hru:rightT u
      ·have HG:Hid (gr=(zeroF,30)):=Lib.hid (by rw [HG4.out,if_neg (by rw [hru];decide)])
       have HZ9:=Lib.hid (store4_box HZ10.out (.string ⟨#[]⟩) (.int .u8 0) (.string ⟨#[]⟩) (.slice none 0 0))
       have HB9:=Lib.hid (store4_below hb10 (g:=w.heap.size+2) (by omega) (.string ⟨#[]⟩) (.int .u8 0) (.string ⟨#[]⟩) (.slice none 0 0))
       obtain ⟨z0,z1,z2,z3⟩:=c4A HZ10.out
       have u0:=unfr HZ10.out 0
       have u1:=unfr HZ10.out 1
       have u2:=unfr HZ10.out 2
       have u3:=unfr HZ10.out 3
       go_wp2_with fail
       refine bodyPost_ret (results_ct rfl _ _ (w.heap.size+2) 25 zC (0,0) _ rfl HZ9.out Tryz.underlying25 rfl (by kernel_rfl)) rfl ?_
       rw [HG.out]
       exact ⟨none,0,rfl,Nat.le_refl _,fun _ _=>Kd.C_nil FileK _,HB9.out⟩
      ·have HG:Hid (gr=(u,0)):=Lib.hid (by rw [HG4.out,if_pos hru])
       obtain ⟨A0,c0,he0,hat0⟩:=HH10.out.at
       injection he0 with e1 _ e2
       subst e1
       subst e2
       have r0:=hat0.c0
       have r1:=hat0.c1
       have r2:=hat0.c2
       have r3:=hat0.c3
       have hle:=hat0.le
       clear hat0
       have HZ9:=Lib.hid (store4_box HZ10.out (.string u.name) (.int .u8 u.kind) (.string u.data) (.slice A9 u.files.length c9))
       have HB9:=Lib.hid (store4_below hb10 (g:=w.heap.size+2) (by omega) (.string u.name) (.int .u8 u.kind) (.string u.data) (.slice A9 u.files.length c9))
       obtain ⟨z0,z1,z2,z3⟩:=c4A HZ10.out
       have u0:=unfr HZ10.out 0
       have u1:=unfr HZ10.out 1
       have u2:=unfr HZ10.out 2
       have u3:=unfr HZ10.out 3
       go_wp2_with fail
       refine bodyPost_ret (results_ct rfl _ _ (w.heap.size+2) 25 (fc u A9 c9) (0,0) _ rfl HZ9.out Tryz.underlying25 rfl (by kernel_rfl)) rfl ?_
       rw [HG.out]
       have hsz9:((((w10.setCell ⟨w.heap.size+2,0,none⟩ (.string u.name)).setCell ⟨w.heap.size+2,1,none⟩ (.int .u8 u.kind)).setCell ⟨w.heap.size+2,2,none⟩ (.string u.data)).setCell ⟨w.heap.size+2,3,none⟩ (.slice A9 u.files.length c9)).heap.size=w10.heap.size:=by simp [World.setCell]
       have hall:∀ W':World,(∀ k,w.heap.size≤k→k<((((w10.setCell ⟨w.heap.size+2,0,none⟩ (.string u.name)).setCell ⟨w.heap.size+2,1,none⟩ (.int .u8 u.kind)).setCell ⟨w.heap.size+2,2,none⟩ (.string u.data)).setCell ⟨w.heap.size+2,3,none⟩ (.slice A9 u.files.length c9)).heap.size→W'.heap[k]? = ((((w10.setCell ⟨w.heap.size+2,0,none⟩ (.string u.name)).setCell ⟨w.heap.size+2,1,none⟩ (.int .u8 u.kind)).setCell ⟨w.heap.size+2,2,none⟩ (.string u.data)).setCell ⟨w.heap.size+2,3,none⟩ (.slice A9 u.files.length c9)).heap[k]?)→FileK.C W' A9 u.files.length u.files:=by
        intro W' hW
        have hFT:=FT_move _ _ _ W' _ _ HH10.out.ft fun k hk=>by
         have hk2:=FT_lt _ _ _ _ _ HH10.out.ft k hk
         exact (hW k (by omega) (by omega)).trans (store4_other w10 (by omega) _ _ _ _)
        obtain ⟨A0,c0,he0,hle0,hC0⟩:=FT_reads _ _ _ _ _ hFT
        injection he0 with e1 _ e2
        subst e1
        subst e2
        exact hC0
       exact ⟨A9,c9,rfl,hle,hall,HB9.out⟩
     ·obtain ⟨i,hi⟩:∃ i,lowB d.files n=i:=⟨_,rfl⟩
      have hil:i<d.files.length:=by
       unfold foundB at hfb
       rw [hi] at hfb
       rcases Nat.lt_or_ge i d.files.length with h | h
       ·exact h
       ·rw [List.getElem?_eq_none h] at hfb
        cases hfb
      have HI9:=Lib.hid hi
      have HFB:=Lib.hid hfb
      rw [hi]
      have ho8:w8.drew.ownsRow w1.heap.size 25 4 (.slice A' d.files.length c') d.files.length inner:=own_move HO9.out fun k hk=>hb8.block k (own_lt HO9.out k hk)
      obtain ⟨gr',rfl⟩:∃ gr',A'=some ⟨gr',0,none⟩:=by
       rcases ho8.2 with ⟨_,h0⟩ | ⟨gr',cap',cur,he,_⟩
       ·omega
       ·injection he with e1 _ _
        exact ⟨gr',e1⟩
      have hin:inner.length=d.files.length * 4:=ho8.1
      have hgr8:∃ cs,w8.drew.heap[gr']? = some (.cells cs 25 (0,0)):=by
       rcases ho8.2 with ⟨_,h0⟩ | ⟨g',cap',cur,he,_,hh,_⟩
       ·omega
       ·injection he with e1 _ _
        injection e1 with e1
        injection e1 with e1 _ _
        subst e1
        exact ⟨_,hh⟩
      obtain ⟨rcs,hgr8⟩:=hgr8
      have hgrg:gr'≠g:=fun e=>(HVB.out gr' rfl).2.1 e
      have hce:∀ j u,inner[j]? = some u→w8.drew.cell? ⟨gr',j,none⟩=some u:=fun j u hj=>by
       have h:=ho8.cells (g:=gr') rfl j u hj
       rwa [add_at4] at h
      have e0:=hce (i * 4) _ (List.getElem?_eq_getElem (by omega))
      have e0':w8.cell? ⟨gr',i * 4,none⟩=_:=e0
      have e1:w8.cell? ⟨gr',i * 4+1,none⟩=_:=hce (i * 4+1) _ (List.getElem?_eq_getElem (by omega))
      have e2:w8.cell? ⟨gr',i * 4+2,none⟩=_:=hce (i * 4+2) _ (List.getElem?_eq_getElem (by omega))
      have e3:w8.cell? ⟨gr',i * 4+3,none⟩=_:=hce (i * 4+3) _ (List.getElem?_eq_getElem (by omega))
      generalize inner[i * 4]=u0 at e0 e0'
      generalize inner[i * 4+1]=u1 at e1
      generalize inner[i * 4+2]=u2 at e2
      generalize inner[i * 4+3]=u3 at e3
      have v0:=unfr hgr8 (i * 4)
      have v0':w8.frozen? ⟨gr',i * 4,none⟩=false:=v0
      have v1:w8.frozen? ⟨gr',i * 4+1,none⟩=false:=unfr hgr8 (i * 4+1)
      have v2:w8.frozen? ⟨gr',i * 4+2,none⟩=false:=unfr hgr8 (i * 4+2)
      have v3:w8.frozen? ⟨gr',i * 4+3,none⟩=false:=unfr hgr8 (i * 4+3)
      have gi:(i:Int)<(d.files.length:Int):=by omega
      have HO8:=Lib.hid ho8
      clear hi hfb ho8 hce
      go_wp2_with fail
      refine start_ (n:=8) (S:=fun w'=>w'.cell? ⟨g,o+3,none⟩=some (.slice (some ⟨gr',0,none⟩) d.files.length c')∧w'.heap[w5.heap.size]? = some (.cells #[.string n,.int .u8 f.kind,.string f.data,.slice A3 f.files.length c3] 25 (0,0))) (ds:=[7]) (bp 8 0) (by kernel_rfl) rfl rfl ⟨y38,HXB8.out⟩ (fun hHeld => ?_)
      refine pA 0 63 (bp 8 1) ?_
      refine pA 1 64 (bp 8 3) ?_
      refine pA 2 65 (bp 8 7) ?_
      refine pA 4 67 (bp 8 23) ?_
      refine tA 3 66 (bp 8 31) hHeld ?_ (hy:=by
       rintro w' ⟨s0,s1⟩
       go_simp
       with_reducible rfl)
      refine tA 5 68 (bp 8 63) hHeld ?_ (hy:=by
       rintro w' ⟨s0,s1⟩
       have q0:=cell_of (j:=0) s1 rfl
       have q1:=cell_of (j:=1) s1 rfl
       have q2:=cell_of (j:=2) s1 rfl
       have q3:=cell_of (j:=3) s1 rfl
       go_simp
       with_reducible rfl)
      refine pA 6 69 (bp 8 127) ?_
      refine last_ (i:=7) (N:=none) (bp 8 255) rfl rfl (by kernel_rfl) (by decide) (fun K hK => ?_)
      refine sA ?_
      refine hK.out _ _ ?_
      refine done_ (by kernel_rfl) ?_
      have s1:=own_set (w':=w8.setCell ⟨gr',i * 4,none⟩ (.string n)) HO8.out rfl (j:=i * 4) (by omega) rfl
      have s2:=own_set (w':=(w8.setCell ⟨gr',i * 4,none⟩ (.string n)).setCell ⟨gr',i * 4+1,none⟩ (.int .u8 f.kind)) s1 rfl (j:=i * 4+1) (by rw [List.length_set];omega) rfl
      have s3:=own_set (w':=((w8.setCell ⟨gr',i * 4,none⟩ (.string n)).setCell ⟨gr',i * 4+1,none⟩ (.int .u8 f.kind)).setCell ⟨gr',i * 4+2,none⟩ (.string f.data)) s2 rfl (j:=i * 4+2) (by rw [List.length_set,List.length_set];omega) rfl
      have s4:=own_set (w':=(((w8.setCell ⟨gr',i * 4,none⟩ (.string n)).setCell ⟨gr',i * 4+1,none⟩ (.int .u8 f.kind)).setCell ⟨gr',i * 4+2,none⟩ (.string f.data)).setCell ⟨gr',i * 4+3,none⟩ (.slice A3 f.files.length c3)) s3 rfl (j:=i * 4+3) (by rw [List.length_set,List.length_set,List.length_set];omega) rfl
      rw [set4_mid i inner _ _ _ _ (by omega)] at s4
      have s4:(((((w8.setCell ⟨gr',i * 4,none⟩ (.string n)).setCell ⟨gr',i * 4+1,none⟩ (.int .u8 f.kind)).setCell ⟨gr',i * 4+2,none⟩ (.string f.data)).setCell ⟨gr',i * 4+3,none⟩ (.slice A3 f.files.length c3)).drew).ownsRow _ _ _ _ _ _:=s4
      have hO9:∀ k,k≠gr'→(((((w8.setCell ⟨gr',i * 4,none⟩ (.string n)).setCell ⟨gr',i * 4+1,none⟩ (.int .u8 f.kind)).setCell ⟨gr',i * 4+2,none⟩ (.string f.data)).setCell ⟨gr',i * 4+3,none⟩ (.slice A3 f.files.length c3)).drew).heap[k]? = w8.heap[k]? := fun k hk =>
       (Below.heap_setCell _ _ _ _ hk).trans ((Below.heap_setCell _ _ _ _ hk).trans ((Below.heap_setCell _ _ _ _ hk).trans (Below.heap_setCell _ _ _ _ hk)))
      have hgrB:w1.heap.size≤gr':=(hbW1 gr' (HVB.out gr' rfl).1).2
      have hb9:=(((hb8w.setCell (p:=⟨gr',i * 4,none⟩) (by simp only;omega) (.string n)).setCell (p:=⟨gr',i * 4+1,none⟩) (by simp only;omega) (.int .u8 f.kind)).setCell (p:=⟨gr',i * 4+2,none⟩) (by simp only;omega) (.string f.data)).setCell (p:=⟨gr',i * 4+3,none⟩) (by simp only;omega) (.slice A3 f.files.length c3)
      have hb9:=bdrew hb9
      have HZ9w:=Lib.hid ((hO9 (w.heap.size+2) (by omega)).trans HZ8.out)
      have HTT:∃ v3 bl2,HeldC w2.heap.size w1.heap.size (putP t q {d with files:=insF d.files (nameF f n)}) v3 bl2 (((((w8.setCell ⟨gr',i * 4,none⟩ (.string n)).setCell ⟨gr',i * 4+1,none⟩ (.int .u8 f.kind)).setCell ⟨gr',i * 4+2,none⟩ (.string f.data)).setCell ⟨gr',i * 4+3,none⟩ (.slice A3 f.files.length c3)).drew)∧∀ k∈bl2,k∈bl∨k∈bz∨W7.heap.size≤k:=by
       obtain ⟨b1,b2,b3,hbb,hLI⟩:=LT_set i HL9.out HFN.out
       have hins:insF d.files (nameF f n)=d.files.take i++nameF f n :: d.files.drop (i+1):=by
        unfold insF
        rw [show foundB d.files (nameF f n).name=true from HFB.out,if_pos rfl,show lowB d.files (nameF f n).name=i from HI9.out]
       rw [hins]
       refine HT9.out _ (.slice (some ⟨gr',0,none⟩) d.files.length c') _ _ b1 b2 b3 bz gr' hLI hbb hzn (fun k hk=>⟨?_,fun e => ?_,?_⟩) (fun k hk h1 h2 => ?_) ?_ ?_ rfl (.inl rfl)
       ·have:=(HBZ.out k hk).2
        omega
       ·have h4:=(HBZ.out k hk).2
        have h6:=(hbW1 k e).1
        omega
       ·have:=(HBZ.out k hk).1
        omega
       ·have hk7:k<W7.heap.size:=by
         rcases hk with rfl | h | h
         ·exact htbl
         ·have:=(hbW1 k h).1
          omega
         ·have:=(HBZ.out k h).1
          omega
        exact (hO9 k (fun e=>h2 (by rw [e];rfl))).trans (hb8.block k hk7)
       ·rw [setCell_id Y3.out]
        exact (hO9 g (Ne.symm hgrg)).trans (hb8.block g hgl)
       ·have hlen:(d.files.take i++nameF f n :: d.files.drop (i+1)).length=d.files.length:=by
         rw [List.length_append,List.length_cons,List.length_take,List.length_drop]
         omega
        rw [hlen]
        exact s4
      clear s1 s2 s3 s4 hO9 e0 e1 e2 e3 v0 v1 v2 v3 e0' v0'
      generalize (((((w8.setCell ⟨gr',i * 4,none⟩ (.string n)).setCell ⟨gr',i * 4+1,none⟩ (.int .u8 f.kind)).setCell ⟨gr',i * 4+2,none⟩ (.string f.data)).setCell ⟨gr',i * 4+3,none⟩ (.slice A3 f.files.length c3)).drew)=W9 at *
      obtain ⟨v3,bl2,hH9,hs9⟩:=HTT
      clear hs9
      have hub:(putP t q {d with files:=insF d.files (nameF f n)}).bulk≤4000000000:=by
       have h1:=bulk_putX (x:=nameF f n) HGO.out
       have h2:=bulk_name f n
       omega
      have HG4:=Lib.hid HG3.out
      generalize putP t q {d with files:=insF d.files (nameF f n)}=u at *
      obtain ⟨A9,c9,rfl,hat9⟩:=hH9.at
      have HH9:=Lib.hid hH9
      have HAT9:=Lib.hid hat9
      have r0:=hat9.c0
      have r1:=hat9.c1
      have r2:=hat9.c2
      have r3:=hat9.c3
      have HRT9:=Lib.hid (show Calls Tryz.prog 38 #[.agg (fc u A9 c9)] W9 _ from right_calls u A9 c9 W9 (by omega) hat9.ch hat9.le)
      clear hH9 hat9 HT9 HO9 HL9 HVB HBS HFI HCP HCF HGC
      go_wp2_with fail
      refine HRT9.out.mono ?_
      rintro e w10 ⟨rfl,hb10'⟩
      have hs10:=hb10'.size
      have hb10:=bstep hb9 hb9.size hb10'
      have HZ10:=Lib.hid ((hb10'.block _ (blk_lt HZ9w.out)).trans HZ9w.out)
      have HH10:=Lib.hid (HH9.out.below hb10')
      clear r0 r1 r2 r3
      cases hru:rightT u
      ·have HG:Hid (gr=(zeroF,30)):=Lib.hid (by rw [HG4.out,if_neg (by rw [hru];decide)])
       have HZ9:=Lib.hid (store4_box HZ10.out (.string ⟨#[]⟩) (.int .u8 0) (.string ⟨#[]⟩) (.slice none 0 0))
       have HB9:=Lib.hid (store4_below hb10 (g:=w.heap.size+2) (by omega) (.string ⟨#[]⟩) (.int .u8 0) (.string ⟨#[]⟩) (.slice none 0 0))
       obtain ⟨z0,z1,z2,z3⟩:=c4A HZ10.out
       have u0:=unfr HZ10.out 0
       have u1:=unfr HZ10.out 1
       have u2:=unfr HZ10.out 2
       have u3:=unfr HZ10.out 3
       go_wp2_with fail
       refine bodyPost_ret (results_ct rfl _ _ (w.heap.size+2) 25 zC (0,0) _ rfl HZ9.out Tryz.underlying25 rfl (by kernel_rfl)) rfl ?_
       rw [HG.out]
       exact ⟨none,0,rfl,Nat.le_refl _,fun _ _=>Kd.C_nil FileK _,HB9.out⟩
      ·have HG:Hid (gr=(u,0)):=Lib.hid (by rw [HG4.out,if_pos hru])
       obtain ⟨A0,c0,he0,hat0⟩:=HH10.out.at
       injection he0 with e1 _ e2
       subst e1
       subst e2
       have r0:=hat0.c0
       have r1:=hat0.c1
       have r2:=hat0.c2
       have r3:=hat0.c3
       have hle:=hat0.le
       clear hat0
       have HZ9:=Lib.hid (store4_box HZ10.out (.string u.name) (.int .u8 u.kind) (.string u.data) (.slice A9 u.files.length c9))
       have HB9:=Lib.hid (store4_below hb10 (g:=w.heap.size+2) (by omega) (.string u.name) (.int .u8 u.kind) (.string u.data) (.slice A9 u.files.length c9))
       obtain ⟨z0,z1,z2,z3⟩:=c4A HZ10.out
       have u0:=unfr HZ10.out 0
       have u1:=unfr HZ10.out 1
       have u2:=unfr HZ10.out 2
       have u3:=unfr HZ10.out 3
       go_wp2_with fail
       refine bodyPost_ret (results_ct rfl _ _ (w.heap.size+2) 25 (fc u A9 c9) (0,0) _ rfl HZ9.out Tryz.underlying25 rfl (by kernel_rfl)) rfl ?_
       rw [HG.out]
       have hsz9:((((w10.setCell ⟨w.heap.size+2,0,none⟩ (.string u.name)).setCell ⟨w.heap.size+2,1,none⟩ (.int .u8 u.kind)).setCell ⟨w.heap.size+2,2,none⟩ (.string u.data)).setCell ⟨w.heap.size+2,3,none⟩ (.slice A9 u.files.length c9)).heap.size=w10.heap.size:=by simp [World.setCell]
       have hall:∀ W':World,(∀ k,w.heap.size≤k→k<((((w10.setCell ⟨w.heap.size+2,0,none⟩ (.string u.name)).setCell ⟨w.heap.size+2,1,none⟩ (.int .u8 u.kind)).setCell ⟨w.heap.size+2,2,none⟩ (.string u.data)).setCell ⟨w.heap.size+2,3,none⟩ (.slice A9 u.files.length c9)).heap.size→W'.heap[k]? = ((((w10.setCell ⟨w.heap.size+2,0,none⟩ (.string u.name)).setCell ⟨w.heap.size+2,1,none⟩ (.int .u8 u.kind)).setCell ⟨w.heap.size+2,2,none⟩ (.string u.data)).setCell ⟨w.heap.size+2,3,none⟩ (.slice A9 u.files.length c9)).heap[k]?)→FileK.C W' A9 u.files.length u.files:=by
        intro W' hW
        have hFT:=FT_move _ _ _ W' _ _ HH10.out.ft fun k hk=>by
         have hk2:=FT_lt _ _ _ _ _ HH10.out.ft k hk
         exact (hW k (by omega) (by omega)).trans (store4_other w10 (by omega) _ _ _ _)
        obtain ⟨A0,c0,he0,hle0,hC0⟩:=FT_reads _ _ _ _ _ hFT
        injection he0 with e1 _ e2
        subst e1
        subst e2
        exact hC0
       exact ⟨A9,c9,rfl,hle,hall,HB9.out⟩
end Go.Proofs.YthlcjjhfkldmhaaGreatDoor.G
end
section
section
namespace Go.Proofs.YthlcjjhfkldmhaaGreatDoor.G
open Go.RowKit Go.Lib Go.Proofs.YthlcjjhfkldmhaaGreatDoorW.PrintWords Go.Proofs.YthlcjjhfkldmhaaGreatDoorW.PrintLast
set_option linter.unusedVariables false
set_option linter.unusedSimpArgs false
theorem cell_eqv {W W':World} {g:Nat} (h:W.heap[g]? = W'.heap[g]?) (j:Nat):W.cell? ⟨g,j,none⟩=W'.cell? ⟨g,j,none⟩:=by simp [World.cell?,h]
theorem Reach_mv {w w':World} (hb:Below w.heap.size w w'):∀ {p:List ByteArray} {ad:Addr} {f:File} {ad':Addr} {y:File},Reach w ad f p ad' y→Reach w' ad f p ad' y
 | [],_,_,_,_,h=>h
 | n :: p,ad,f,ad',y,⟨b,c,x,h1,h2,h3⟩=>⟨b,c,x,(hb.cell (World.block_lt_of_cell? w _ h1)).trans h1,h2,Reach_mv hb h3⟩
theorem go_split {n:ByteArray} {y:File} {k:Int}:∀ {q:List ByteArray} {f:File},goP f (q++[n])=(k,some y)→∃ d,goP f q=(0,some d)∧d.kind=1∧d.files[lowB d.files n]? = some y∧y.name=n
 | [],f,h=>by
  obtain ⟨x,hk,hx,hn,hg⟩:=goP_full h
  rw [goP] at hg
  injection hg with _ hg
  injection hg with hg
  subst hg
  exact ⟨f,rfl,hk,hx,hn⟩
 | m :: q,f,h=>by
  obtain ⟨x,hk,hx,hn,hg⟩:=goP_full h
  obtain ⟨d,h1,h2⟩:=go_split hg
  exact ⟨d,by rw [goP_mk hk hx hn,h1],h2⟩
set_option maxHeartbeats 8000000 in
set_option maxRecDepth 100000 in
theorem drop_calls (t:File) (A:Option Addr) (c:Nat) (Ap:Option Addr) (cp:Nat) (q:List ByteArray) (n:ByteArray) (w:World) (hr:FileK.C w A t.files.length t.files) (hc:t.files.length≤c) (hbt:t.bulk≤1000000000) (hp:Kd.C Kd.string w Ap (q++[n]).length (q++[n])) (hcp:q.length+1≤cp) (hpl:q.length≤1000000000) :
  Calls Tryz.prog 114 #[fileV t A c,.slice Ap (q.length+1) cp] w fun e w'=>∃ A' c',e=.returned (.tuple #[.agg #[.string (dropR t q n).1.name,.int .u8 (dropR t q n).1.kind,.string (dropR t q n).1.data,.slice A' (dropR t q n).1.files.length c'],.int .i64 (dropR t q n).2])∧(dropR t q n).1.files.length≤c'∧(∀ W':World,(∀ k,w.heap.size≤k→k<w'.heap.size→W'.heap[k]? = w'.heap[k]?)→FileK.C W' A' (dropR t q n).1.files.length (dropR t q n).1.files)∧Below w.heap.size w w':=by
 have h2:=two_boxes w (fc t A c) zC 25 25
 have hb0:=((Below.refl w.heap.size w).alloc (Nat.le_refl _) (.cells (fc t A c) 25)).alloc (by simp) (.cells zC 25)
 have HP:=Lib.hid hp
 have HGR:Hid (dropR t q n=if rightT t=true then (match goP t (q++[n]) with
   | (_,some _)=>(match goP t q with
    | (_,some d)=>(putP t q {d with files:=delF d.files n},0)
    | (k,none)=>(zeroF,k))
   | (k,none)=>(zeroF,k)) else (zeroF,30)):=Lib.hid rfl
 generalize dropR t q n=gr at *
 have HRT:=Lib.hid (fun W (h:Below w.heap.size w W)=>(show Calls Tryz.prog 38 #[.agg (fc t A c)] W _ from right_calls t A c W (by omega) (Kd.C_below hr h) hc))
 have HCP:=Lib.hid (fun W (h:Below w.heap.size w W)=>(show Calls Tryz.prog 21 #[.agg (fc t A c)] W _ from copy_apart t.bulk t A c W (Nat.le_refl _) (by omega) (Kd.C_below hr h) hc))
 have HQ:=Lib.hid (show Kd.C Kd.string w Ap q.length q from by
  have h1:=Kd.C_take hp (m:=q.length) (by simp)
  rwa [List.take_left' rfl] at h1)
 have hqn:(q++[n]).length=q.length+1:=by simp
 have HGC:=Lib.hid (fun W ad A' c' (h:Below w.heap.size w W) h1 h2=>get_calls t ad A' c' Ap cp q W h1 (by omega) h2 (Kd.C_below HQ.out h) (by omega) (by omega))
 have HGN:=Lib.hid (fun W ad A' c' (h:Below w.heap.size w W) h1 h2=>(show Calls Tryz.prog 125 #[.pointer (some ad),.slice Ap (q.length+1) cp] W _ from by rw [← hqn];exact get_calls t ad A' c' Ap cp (q++[n]) W h1 (by omega) h2 (Kd.C_below HP.out h) (by omega) (by omega)))
 have H1:=Lib.hid h2.1
 have H3:=Lib.hid h2.2
 obtain ⟨t0,t1,t2,t3⟩:=c4A h2.1
 have hk1:((q.length:Int)+1 - 1)=(q.length:Int):=by omega
 clear hp hr h2 hqn
 go_enter Tryz.func114,Tryz.ntmps114
 unfold fileV
 go_wp2_with fail
 generalize (w.alloc (.cells (fc t A c) 25)).alloc (.cells zC 25)=W0 at *
 have hz0:=blk_lt H3.out
 refine (HRT.out _ hb0).mono ?_
 rintro e w1 ⟨rfl,hb1'⟩
 have hs1:=hb1'.size
 have hb1:=bstep hb0 hb0.size hb1'
 have H11:=Lib.hid ((hb1'.block _ (blk_lt H1.out)).trans H1.out)
 have HZ1:=Lib.hid ((hb1'.block _ (blk_lt H3.out)).trans H3.out)
 clear t0 t1 t2 t3
 cases hrt:rightT t
 ·have HG:Hid (gr=(zeroF,30)):=Lib.hid (by rw [HGR.out,if_neg (by rw [hrt];decide)])
  have HZF:=Lib.hid (store4_box HZ1.out (.string ⟨#[]⟩) (.int .u8 0) (.string ⟨#[]⟩) (.slice none 0 0))
  have HB9:=Lib.hid (store4_below hb1 (g:=w.heap.size+1) (by omega) (.string ⟨#[]⟩) (.int .u8 0) (.string ⟨#[]⟩) (.slice none 0 0))
  obtain ⟨z0,z1,z2,z3⟩:=c4A HZ1.out
  have u0:=unfr HZ1.out 0
  have u1:=unfr HZ1.out 1
  have u2:=unfr HZ1.out 2
  have u3:=unfr HZ1.out 3
  go_wp2_with fail
  refine bodyPost_ret (results_ct rfl _ _ (w.heap.size+1) 25 zC (0,0) _ rfl HZF.out Tryz.underlying25 rfl (by kernel_rfl)) rfl ?_
  rw [HG.out]
  exact ⟨none,0,rfl,Nat.le_refl _,fun _ _=>Kd.C_nil FileK _,HB9.out⟩
 ·have HG1:=HGR.out
  rw [if_pos hrt] at HG1
  have HG2:=Lib.hid HG1
  have HS:=Lib.hid (right_sort hrt)
  clear HG1
  obtain ⟨t0,t1,t2,t3⟩:=c4A H11.out
  go_wp2_with fail
  refine (HCP.out _ hb1).mono ?_
  rintro e w2 ⟨v,bl,rfl,hft,hnd,hb2'⟩
  have hs2:=hb2'.size
  have hb2:=bstep hb1 hb1.size hb2'
  have HZ2:=Lib.hid ((hb2'.block _ (blk_lt HZ1.out)).trans HZ1.out)
  have hz1:=blk_lt HZ1.out
  clear t0 t1 t2 t3
  obtain ⟨A1,c1,rfl,hc1,hC1⟩:=FT_reads _ _ _ _ _ hft
  have hba:Below w2.heap.size w2 (w2.alloc (.cells (fc t A1 c1) 25)):=below_alloc (Below.refl _ _) _
  have HH3:Hid (HeldC w2.heap.size w1.heap.size t (.slice A1 t.files.length c1) bl (w2.alloc (.cells (fc t A1 c1) 25))):=Lib.hid ⟨blk_new w2 _,FT_below hft hba,hnd,fun k hk e=>by have:=(FT_lt _ _ _ _ _ hft k hk).1;omega⟩
  have hb3:=bstep hb2 hb2.size hba
  have HZ3:=Lib.hid ((hba.block _ (blk_lt HZ2.out)).trans HZ2.out)
  have HBL2:=Lib.hid (FT_lt _ _ _ _ _ hft)
  clear hft hnd hC1 hba
  go_wp2_with fail
  generalize w2.alloc (.cells (fc t A1 c1) 25)=W3 at *
  have hz3:=blk_lt HH3.out.box
  obtain ⟨A2,c2,he2,hat2⟩:=HH3.out.at
  injection he2 with e1 _ e2
  subst e1
  subst e2
  refine (HGN.out W3 _ _ _ hb3 hat2 HS.out).mono ?_
  clear hat2
  rintro e w4 ⟨hb4',⟨ad0,y,A0,c0,hgo,rfl,_,_,_,_⟩ | ⟨k,hk0,hgo,rfl⟩⟩
  rotate_left
  ·have HG:Hid (gr=(zeroF,k)):=Lib.hid (by rw [HG2.out,hgo])
   have k1:(k != 0)=true:=by rw [bne_iff_ne];exact hk0
   have hs4:=hb4'.size
   have hb4:=bstep hb3 hb3.size hb4'
   have HZ4:=Lib.hid ((hb4'.block _ (blk_lt HZ3.out)).trans HZ3.out)
   clear hgo
   have HZF:=Lib.hid (store4_box HZ4.out (.string ⟨#[]⟩) (.int .u8 0) (.string ⟨#[]⟩) (.slice none 0 0))
   have HB9:=Lib.hid (store4_below hb4 (g:=w.heap.size+1) (by omega) (.string ⟨#[]⟩) (.int .u8 0) (.string ⟨#[]⟩) (.slice none 0 0))
   obtain ⟨z0,z1,z2,z3⟩:=c4A HZ4.out
   have u0:=unfr HZ4.out 0
   have u1:=unfr HZ4.out 1
   have u2:=unfr HZ4.out 2
   have u3:=unfr HZ4.out 3
   go_wp2_with fail
   refine bodyPost_ret (results_ct rfl _ _ (w.heap.size+1) 25 zC (0,0) _ rfl HZF.out Tryz.underlying25 rfl (by kernel_rfl)) rfl ?_
   rw [HG.out]
   exact ⟨none,0,rfl,Nat.le_refl _,fun _ _=>Kd.C_nil FileK _,HB9.out⟩
  ·have hg2:=HG2.out
   rw [hgo] at hg2
   simp only at hg2
   obtain ⟨d0,hgq,hdk,hdx,hyn⟩:=go_split hgo
   rw [hgq] at hg2
   simp only at hg2
   have HG4:=Lib.hid hg2
   have hs4:=hb4'.size
   have hb4:=bstep hb3 hb3.size hb4'
   have HZ4:=Lib.hid ((hb4'.block _ (blk_lt HZ3.out)).trans HZ3.out)
   have HH4:=Lib.hid (HH3.out.below hb4')
   have HGQ:=Lib.hid hgq
   have HDX:=Lib.hid hdx
   have HYN:=Lib.hid hyn
   clear hgo hg2 hgq hdx hyn hdk
   go_wp2_with fail
   obtain ⟨A2',c2',he2,hat2⟩:=HH4.out.at
   injection he2 with e1 _ e2
   subst e1
   subst e2
   refine (HGC.out w4 _ _ _ hb4 hat2 HS.out).mono ?_
   clear hat2
   rintro e w7 ⟨hb7',⟨ad',d,A',c',hgo,rfl,hat,hre,hdb,hds⟩ | ⟨k,hk0,hgo,rfl⟩⟩
   rotate_left
   ·have h0:=HGQ.out
    rw [hgo] at h0
    injection h0 with _ h0
    cases h0
   ·obtain rfl:d0=d:=by
     have h0:=HGQ.out
     rw [hgo] at h0
     injection h0 with _ h0
     injection h0 with h0
     exact h0.symm
    have hs7:=hb7'.size
    have hb7:=bstep hb4 hb4.size hb7'
    have HZ7:=Lib.hid ((hb7'.block _ (blk_lt HZ4.out)).trans HZ4.out)
    have HH7:=Lib.hid (HH4.out.below hb7')
    have y3:=(hb7'.cell (World.block_lt_of_cell? _ _ hat.c3)).trans hat.c3
    have HRE7:=Lib.hid (Reach_mv hb7' hre)
    have HCH:=Lib.hid (Kd.C_below hat.ch hb7')
    have hle:=hat.le
    clear hat hre hgo
    obtain ⟨g,o,v',inner,bs,rfl,hc',⟨gcs,hgc⟩,hgm,ho,hL,hN,hbs,hvb,hT⟩:=turnC HH7.out HRE7.out
    obtain rfl:v'=.slice A' d0.files.length c':=by
     rw [y3] at hc'
     injection hc' with hc'
     exact hc'.symm
    have y3d:w7.drew.cell? ⟨g,o+3,none⟩=some (.slice A' d0.files.length c'):=y3
    obtain ⟨pad,rfl,hx⟩:=Kd.at_string HP.out (q.length:Int) (by omega) (by simp;omega)
    rw [Int.toNat_natCast] at hx
    have he:rdOf ByteArray.empty (q++[n]) (q.length:Int)=n:=by simp [rdOf]
    rw [he] at hx
    clear he
    have x7:=(hb7.cell (World.block_lt_of_cell? w _ hx)).trans hx
    have x7d:w7.drew.cell? (pad.add q.length)=some (.string n):=x7
    have hss:=hds
    rw [SortF_eq] at hss
    have hdl:=bulkL_len d0.files
    have hde:=bulk_eq d0
    have HFI:=Lib.hid (fun W (h:Below w7.heap.size w7 W)=>find_calls A' c' d0.files n W (Kd.C_below HCH.out h) hle (by omega) hss.1)
    have HT9:=Lib.hid hT
    have HO9:=Lib.hid ho
    have HL9:=Lib.hid hL
    have HVB:=Lib.hid hvb
    have hdl2:d0.files.length≤1000000000:=by omega
    have wq:IntKind.i64.wrap (q.length:Int)=(q.length:Int):=by rw [IntKind.wrap_i64];omega
    have gq:(q.length:Int)<(q.length:Int)+1:=by omega
    have gq0:(0:Int)≤(q.length:Int):=by omega
    clear hT ho hL hvb hbs hss hdl hde hc' hx
    go_wp2_with fail
    go_region_with (go_at_call 126;refine (HFI.out _ (bdrew (Below.refl _ _))).mono ?_;rintro e w8 ⟨rfl,hb8'⟩)
    all_goals
     have hb8:Below w7.heap.size w7 w8:=(bdrew (Below.refl w7.heap.size w7)).trans hb8'
     have hs8:=hb8.size
     have hgl:g<w7.heap.size:=blk_lt hgc
     have hz7:=blk_lt HZ7.out
     have HZ8:=Lib.hid ((hb8.block _ hz7).trans HZ7.out)
     have HGC8:=Lib.hid ((hb8.block _ hgl).trans hgc)
     have y38:w8.cell? ⟨g,o+3,none⟩=some (.slice A' d0.files.length c'):=(hb8.cell (p:=⟨g,o+3,none⟩) hgl).trans y3
     have hb8w:=bstep hb7 hb7.size hb8
     have htbl:=blk_lt HH7.out.box
     have hbW1:∀ k∈bl,k<w2.heap.size∧w1.heap.size≤k:=HBL2.out
     have Y3:=Lib.hid y3
     clear y3 y3d hb8' x7 x7d
     obtain ⟨i,hi⟩:∃ i,lowB d0.files n=i:=⟨_,rfl⟩
     have hil:i<d0.files.length:=by
      have h0:=HDX.out
      rw [hi] at h0
      exact (List.getElem?_eq_some_iff.1 h0).1
     have HI9:=Lib.hid hi
     rw [hi]
     have ho8:w8.ownsRow w1.heap.size 25 4 (.slice A' d0.files.length c') d0.files.length inner:=own_move HO9.out fun k hk=>hb8.block k (own_lt HO9.out k hk)
     obtain ⟨gr',rfl⟩:∃ gr',A'=some ⟨gr',0,none⟩:=by
      rcases ho8.2 with ⟨_,h0⟩ | ⟨gr',cap',cur,he,_⟩
      ·omega
      ·injection he with e1 _ _
       exact ⟨gr',e1⟩
     have hgrg:gr'≠g:=fun e=>(HVB.out gr' rfl).2.1 e
     have HDEL:=Lib.hid (delete_calls gr' d0.files.length c' inner i w1.heap.size w8 ho8 hil (LT_one' _ _ _ _ HL9.out) (by omega))
     have w1i:IntKind.i64.wrap ((i:Int)+1)=(i:Int)+1:=by rw [IntKind.wrap_i64];omega
     clear hi ho8
     go_wp2_with fail
     refine HDEL.out.mono ?_
     rintro e w9 ⟨rfl,hown9,hon9⟩
     have HOWN9:=Lib.hid hown9
     have HG9:=Lib.hid (hon9.block g (by omega) (Ne.symm hgrg))
     have y39:w9.cell? ⟨g,o+3,none⟩=some (.slice (some ⟨gr',0,none⟩) d0.files.length c'):=(cell_eqv HG9.out (o+3)).trans y38
     have yf9:w9.frozen? ⟨g,o+3,none⟩=false:=unfr (HG9.out.trans HGC8.out) (o+3)
     have hO9:Only (fun k=>k=g∨k=gr') w8 (w9.setCell ⟨g,o+3,none⟩ (.slice (some ⟨gr',0,none⟩) (d0.files.length - 1) c')):=hon9.trans (Only.setCell w9 ⟨g,o+3,none⟩ _) (fun k _ h=>.inr h) (fun k _ h=>.inl h)
     have hlow:∀ k,(k=g∨k=gr')→w1.heap.size≤k:=by
      rintro k (e | e)
      ·rcases hgm with h | h
       ·omega
       ·have:=(hbW1 g h).2
        omega
      ·have:=(hbW1 _ (HVB.out gr' rfl).1).2
       omega
     have HZ9:=Lib.hid ((hO9.block (w.heap.size+1) (by omega) (fun e=>by have:=hlow _ e;omega)).trans HZ8.out)
     have hb9:=hb8w.trans (hO9.below (B:=w.heap.size) (by omega) (fun k hk e=>by have:=hlow _ e;omega))
     have hrow9:((w9.setCell ⟨g,o+3,none⟩ (.slice (some ⟨gr',0,none⟩) (d0.files.length - 1) c'))).ownsRow w1.heap.size 25 4 (.slice (some ⟨gr',0,none⟩) (d0.files.length - 1) c') (d0.files.length - 1) (inner.take (i * 4)++inner.drop ((i+1) * 4)) :=
      own_move HOWN9.out fun k hk=>Below.heap_setCell _ _ _ _ (fun e=>hgrg (by injection hk with hk;exact hk.trans e))
     have hgW:((w9.setCell ⟨g,o+3,none⟩ (.slice (some ⟨gr',0,none⟩) (d0.files.length - 1) c'))).heap[g]? = (w7.setCell ⟨g,o+3,none⟩ (.slice (some ⟨gr',0,none⟩) (d0.files.length - 1) c')).heap[g]? := setCell_same ⟨g,o+3,none⟩ _ (HG9.out.trans (hb8.block g hgl))
     have HTT:∃ v3 bl2,HeldC w2.heap.size w1.heap.size (putP t q {d0 with files:=delF d0.files n}) v3 bl2 (w9.setCell ⟨g,o+3,none⟩ (.slice (some ⟨gr',0,none⟩) (d0.files.length - 1) c'))∧∀ k∈bl2,k∈bl∨k∈([]:List Nat)∨w7.heap.size≤k:=by
      obtain ⟨b1,b2,b3,hbb,hLI⟩:=LT_del i HL9.out
      have hins:delF d0.files n=d0.files.take i++d0.files.drop (i+1):=by
       unfold delF
       rw [HI9.out]
      rw [hins]
      refine HT9.out _ _ _ _ b1 b2 b3 [] gr' hLI hbb List.nodup_nil (fun k hk=>(by cases hk)) (fun k hk h1 h2 => ?_) hgW ?_ rfl (.inl rfl)
      ·have hk7:k<w7.heap.size:=by
        rcases hk with rfl | h | h
        ·exact htbl
        ·have:=(hbW1 k h).1
         omega
        ·cases h
       exact (hO9.block k (by omega) (fun e=>e.elim h1 (fun e=>h2 (by rw [e];rfl)))).trans (hb8.block k hk7)
      ·have hlen:(d0.files.take i++d0.files.drop (i+1)).length=d0.files.length - 1:=by
        rw [List.length_append,List.length_take,List.length_drop]
        omega
       rw [hlen]
       exact hrow9
     have hO9s:=hO9.size
     have hs9:=hon9.size
     clear HDEL hrow9 hgW hO9 HOWN9 hown9 hon9 HG9
     have HTT9:=Lib.hid HTT
     clear HTT
     obtain ⟨v3,bl2,hH9,hs9⟩:=HTT9.out
     clear HTT9 hs9
     obtain ⟨W9,hW9⟩:∃ W9,(w9.setCell ⟨g,o+3,none⟩ (.slice (some ⟨gr',0,none⟩) (d0.files.length - 1) c'))=W9:=⟨_,rfl⟩
     rw [hW9] at hH9 hb9 HZ9 hO9s
     generalize putP t q {d0 with files:=delF d0.files n}=u at *
     obtain ⟨A9,c9,rfl,hat9⟩:=hH9.at
     have HH9:=Lib.hid hH9
     have r0:=hat9.c0
     have r1:=hat9.c1
     have r2:=hat9.c2
     have r3:=hat9.c3
     clear hat9 hH9 HT9 HO9 HL9 HVB HFI HCP HGC HGN
     have HZF:=Lib.hid (store4_box HZ9.out (.string u.name) (.int .u8 u.kind) (.string u.data) (.slice A9 u.files.length c9))
     have HB9:=Lib.hid (store4_below hb9 (g:=w.heap.size+1) (by omega) (.string u.name) (.int .u8 u.kind) (.string u.data) (.slice A9 u.files.length c9))
     obtain ⟨z0,z1,z2,z3⟩:=c4A HZ9.out
     have u0:=unfr HZ9.out 0
     have u1:=unfr HZ9.out 1
     have u2:=unfr HZ9.out 2
     have u3:=unfr HZ9.out 3
     go_wp2_with fail
     refine bodyPost_ret (results_ct rfl _ _ (w.heap.size+1) 25 (fc u A9 c9) (0,0) _ rfl HZF.out Tryz.underlying25 rfl (by kernel_rfl)) rfl ?_
     rw [HG4.out]
     have hst:=fun k hk=>store4_other W9 (g:=w.heap.size+1) (k:=k) hk (.string u.name) (.int .u8 u.kind) (.string u.data) (.slice A9 u.files.length c9)
     have hsz9:((((W9.setCell ⟨w.heap.size+1,0,none⟩ (.string u.name)).setCell ⟨w.heap.size+1,1,none⟩ (.int .u8 u.kind)).setCell ⟨w.heap.size+1,2,none⟩ (.string u.data)).setCell ⟨w.heap.size+1,3,none⟩ (.slice A9 u.files.length c9)).heap.size=W9.heap.size:=by simp [World.setCell]
     have hall:∀ W':World,(∀ k,w.heap.size≤k→k<((((W9.setCell ⟨w.heap.size+1,0,none⟩ (.string u.name)).setCell ⟨w.heap.size+1,1,none⟩ (.int .u8 u.kind)).setCell ⟨w.heap.size+1,2,none⟩ (.string u.data)).setCell ⟨w.heap.size+1,3,none⟩ (.slice A9 u.files.length c9)).heap.size→W'.heap[k]? = ((((W9.setCell ⟨w.heap.size+1,0,none⟩ (.string u.name)).setCell ⟨w.heap.size+1,1,none⟩ (.int .u8 u.kind)).setCell ⟨w.heap.size+1,2,none⟩ (.string u.data)).setCell ⟨w.heap.size+1,3,none⟩ (.slice A9 u.files.length c9)).heap[k]?)→u.files.length≤c9∧FileK.C W' A9 u.files.length u.files:=by
      intro W' hW
      have hFT:=FT_move _ _ _ W' _ _ HH9.out.ft fun k hk=>by
       have hk2:=FT_lt _ _ _ _ _ HH9.out.ft k hk
       exact (hW k (by omega) (by omega)).trans (hst k (by omega))
      obtain ⟨A0,c0,he0,hle0,hC0⟩:=FT_reads _ _ _ _ _ hFT
      injection he0 with e1 _ e2
      subst e1
      subst e2
      exact ⟨hle0,hC0⟩
     exact ⟨A9,c9,rfl,(hall _ fun _ _ _=>rfl).1,fun W' hW=>(hall W' hW).2,HB9.out⟩
end Go.Proofs.YthlcjjhfkldmhaaGreatDoor.G
end
section
section
namespace Go.Proofs.YthlcjjhfkldmhaaGreatDoor.G
open Go.RowKit Go.Lib Go.Proofs.YthlcjjhfkldmhaaGreatDoorW.PrintWords Go.Proofs.YthlcjjhfkldmhaaGreatDoorW.PrintLast
set_option linter.unusedVariables false
set_option linter.unusedSimpArgs false
def nilR (t:File):File×Int:=if rightT t=true then (zeroF,2) else (zeroF,30)
def putA (t:File) (p:List ByteArray) (f:File):File×Int:=match p.getLast? with | none=>nilR t | some n=>putR t p.dropLast n f
def dropA (t:File) (p:List ByteArray):File×Int:=match p.getLast? with | none=>nilR t | some n=>dropR t p.dropLast n
theorem putA_nil (t f:File):putA t [] f=nilR t:=rfl
theorem dropA_nil (t:File):dropA t []=nilR t:=rfl
theorem putA_snoc (t f:File) (q:List ByteArray) (n:ByteArray):putA t (q++[n]) f=putR t q n f:=by simp [putA]
theorem dropA_snoc (t:File) (q:List ByteArray) (n:ByteArray):dropA t (q++[n])=dropR t q n:=by simp [dropA]
theorem nil_or_snoc (p:List ByteArray):p=[]∨∃ q n,p=q++[n]:=by
 cases h:p.getLast? with
 | none=>exact .inl (List.getLast?_eq_none_iff.1 h)
 | some n=>exact .inr ⟨p.dropLast,n,by
   have hne:p≠[]:=fun e=>by subst e;simp at h
   rw [List.getLast?_eq_some_getLast hne] at h
   injection h with h
   rw [← h]
   exact (List.dropLast_concat_getLast hne).symm⟩
theorem zero_bulk4:zeroF.bulk=4:=by rw [bulk_eq];rfl
theorem nil_bulk (t:File):(nilR t).1.bulk≤4:=by
 unfold nilR
 split <;> exact Nat.le_of_eq zero_bulk4
theorem dropA_bulk (t:File) (p:List ByteArray):(dropA t p).1.bulk≤t.bulk+4:=by
 rcases nil_or_snoc p with rfl | ⟨q,n,rfl⟩
 ·rw [dropA_nil]
  have:=nil_bulk t
  omega
 ·have hz:=zero_bulk4
  rw [dropA_snoc]
  unfold dropR
  split
  ·cases hg:goP t (q++[n]) with
   | mk k o =>
    cases o with
    | none=>simp only;omega
    | some y =>
     simp only
     cases hg2:goP t q with
     | mk k2 o2 =>
      cases o2 with
      | none=>simp only;omega
      | some d =>
       have h1:=bulk_dropX (n:=n) hg2
       simp only
       omega
  ·simp only;omega
def AnsS (lo hi:Nat) (g:File×Int) (e:Ending) (w':World):Prop:=∃ A' c',e=.returned (.tuple #[.agg (fc g.1 A' c'),.int .i64 g.2])∧g.1.files.length≤c'∧∀ W':World,(∀ k,lo≤k→k<hi→W'.heap[k]? = w'.heap[k]?)→FileK.C W' A' g.1.files.length g.1.files
set_option maxHeartbeats 8000000 in
set_option maxRecDepth 100000 in
theorem tput0_calls (t f:File) (A Af:Option Addr) (c cf:Nat) (Ap:Option Addr) (cp:Nat) (w:World) (ht:FileK.C w A t.files.length t.files) (hc:t.files.length≤c) (hbt:t.bulk≤1000000000) :
  Calls Tryz.prog 115 #[fileV t A c,.slice Ap 0 cp,fileV f Af cf] w fun e w'=>∃ A' c',e=.returned (.tuple #[.agg #[.string (nilR t).1.name,.int .u8 (nilR t).1.kind,.string (nilR t).1.data,.slice A' (nilR t).1.files.length c'],.int .i64 (nilR t).2])∧(nilR t).1.files.length≤c'∧(∀ W':World,FileK.C W' A' (nilR t).1.files.length (nilR t).1.files)∧Below w.heap.size w w':=by
 have h2:=three_all w (fc t A c) (fc f Af cf) zC 25 25 25
 have hb0:=(((Below.refl w.heap.size w).alloc (Nat.le_refl _) (.cells (fc t A c) 25)).alloc (by simp) (.cells (fc f Af cf) 25)).alloc (by simp;omega) (.cells zC 25)
 have I:=Lib.hid (Hd.base hb0 (by first | exact Nat.le_refl _ | exact Below.size hb0))
 replace I:=Lib.hid (Hd.and I.out (Hd.box (h2.1)))
 replace I:=Lib.hid (Hd.and I.out (Hd.box (h2.2.1)))
 replace I:=Lib.hid (Hd.and I.out (Hd.box (h2.2.2)))
 replace I:=Lib.hid (Hd.and I.out (Hd.reads (Kd.C_below ht hb0)))
 clear h2
 obtain ⟨gr,hgr⟩:∃ g,nilR t=g:=⟨_,rfl⟩
 rw [hgr]
 unfold nilR at hgr
 have HG:=Lib.hid hgr
 clear hgr ht
 go_enter Tryz.func115,Tryz.ntmps115
 unfold fileV
 obtain ⟨lt0,lt1,lt2,lt3⟩:=c4A I.out.now.2.2.2.1
 go_wp2_with fail
 clear lt0 lt1 lt2 lt3
 generalize (((w.alloc (.cells (fc t A c) 25)).alloc (.cells (fc f Af cf) 25)).alloc (.cells zC 25))=W0 at *
 refine ((show Calls Tryz.prog 38 #[.agg (fc t A c)] _ _ from right_calls t A c _ (by omega) I.out.now.1 hc)).mono ?_
 rintro e w1 ⟨rfl,hq1⟩
 replace I:=Lib.hid (Hd.mv I.out hq1)
 cases hrt:rightT t
 ·skip
  have HG1:=HG.out
  rw [hrt,if_neg (by decide)] at HG1
  replace HG1:=Lib.hid HG1
  have HZ:=I.out.now.2.1
  have HZF:=Lib.hid (store4_box HZ (.string ⟨#[]⟩) (.int .u8 0) (.string ⟨#[]⟩) (.slice none 0 0))
  have HB9:=Lib.hid (store4_below I.out.now.2.2.2.2 (g:=w.heap.size+2) (by omega) (.string ⟨#[]⟩) (.int .u8 0) (.string ⟨#[]⟩) (.slice none 0 0))
  obtain ⟨z0,z1,z2,z3⟩:=c4A HZ
  obtain ⟨u0,u1,u2,u3⟩:=u4A HZ
  go_wp2_with fail
  refine bodyPost_ret (results_ct rfl _ _ (w.heap.size+2) 25 zC (0,0) _ rfl HZF.out Tryz.underlying25 rfl (by kernel_rfl)) rfl ?_
  rw [← HG1.out]
  exact ⟨none,0,rfl,Nat.le_refl _,fun _=>Kd.C_nil FileK _,HB9.out⟩
 ·skip
  have HG1:=HG.out
  rw [if_pos hrt] at HG1
  replace HG1:=Lib.hid HG1
  have HZ:=I.out.now.2.1
  have HZF:=Lib.hid (store4_box HZ (.string ⟨#[]⟩) (.int .u8 0) (.string ⟨#[]⟩) (.slice none 0 0))
  have HB9:=Lib.hid (store4_below I.out.now.2.2.2.2 (g:=w.heap.size+2) (by omega) (.string ⟨#[]⟩) (.int .u8 0) (.string ⟨#[]⟩) (.slice none 0 0))
  obtain ⟨z0,z1,z2,z3⟩:=c4A HZ
  obtain ⟨u0,u1,u2,u3⟩:=u4A HZ
  go_wp2_with fail
  refine bodyPost_ret (results_ct rfl _ _ (w.heap.size+2) 25 zC (0,0) _ rfl HZF.out Tryz.underlying25 rfl (by kernel_rfl)) rfl ?_
  rw [← HG1.out]
  exact ⟨none,0,rfl,Nat.le_refl _,fun _=>Kd.C_nil FileK _,HB9.out⟩
set_option maxHeartbeats 8000000 in
set_option maxRecDepth 100000 in
theorem tdrop0_calls (t:File) (A:Option Addr) (c:Nat) (Ap:Option Addr) (cp:Nat) (w:World) (ht:FileK.C w A t.files.length t.files) (hc:t.files.length≤c) (hbt:t.bulk≤1000000000) :
  Calls Tryz.prog 114 #[fileV t A c,.slice Ap 0 cp] w fun e w'=>∃ A' c',e=.returned (.tuple #[.agg #[.string (nilR t).1.name,.int .u8 (nilR t).1.kind,.string (nilR t).1.data,.slice A' (nilR t).1.files.length c'],.int .i64 (nilR t).2])∧(nilR t).1.files.length≤c'∧(∀ W':World,FileK.C W' A' (nilR t).1.files.length (nilR t).1.files)∧Below w.heap.size w w':=by
 have h2:=two_boxes w (fc t A c) zC 25 25
 have hb0:=((Below.refl w.heap.size w).alloc (Nat.le_refl _) (.cells (fc t A c) 25)).alloc (by simp) (.cells zC 25)
 have I:=Lib.hid (Hd.base hb0 (by first | exact Nat.le_refl _ | exact Below.size hb0))
 replace I:=Lib.hid (Hd.and I.out (Hd.box (h2.1)))
 replace I:=Lib.hid (Hd.and I.out (Hd.box (h2.2)))
 replace I:=Lib.hid (Hd.and I.out (Hd.reads (Kd.C_below ht hb0)))
 clear h2
 obtain ⟨gr,hgr⟩:∃ g,nilR t=g:=⟨_,rfl⟩
 rw [hgr]
 unfold nilR at hgr
 have HG:=Lib.hid hgr
 clear hgr ht
 go_enter Tryz.func114,Tryz.ntmps114
 unfold fileV
 obtain ⟨lt0,lt1,lt2,lt3⟩:=c4A I.out.now.2.2.1
 go_wp2_with fail
 clear lt0 lt1 lt2 lt3
 generalize ((w.alloc (.cells (fc t A c) 25)).alloc (.cells zC 25))=W0 at *
 refine ((show Calls Tryz.prog 38 #[.agg (fc t A c)] _ _ from right_calls t A c _ (by omega) I.out.now.1 hc)).mono ?_
 rintro e w1 ⟨rfl,hq1⟩
 replace I:=Lib.hid (Hd.mv I.out hq1)
 cases hrt:rightT t
 ·skip
  have HG1:=HG.out
  rw [hrt,if_neg (by decide)] at HG1
  replace HG1:=Lib.hid HG1
  have HZ:=I.out.now.2.1
  have HZF:=Lib.hid (store4_box HZ (.string ⟨#[]⟩) (.int .u8 0) (.string ⟨#[]⟩) (.slice none 0 0))
  have HB9:=Lib.hid (store4_below I.out.now.2.2.2 (g:=w.heap.size+1) (by omega) (.string ⟨#[]⟩) (.int .u8 0) (.string ⟨#[]⟩) (.slice none 0 0))
  obtain ⟨z0,z1,z2,z3⟩:=c4A HZ
  obtain ⟨u0,u1,u2,u3⟩:=u4A HZ
  go_wp2_with fail
  refine bodyPost_ret (results_ct rfl _ _ (w.heap.size+1) 25 zC (0,0) _ rfl HZF.out Tryz.underlying25 rfl (by kernel_rfl)) rfl ?_
  rw [← HG1.out]
  exact ⟨none,0,rfl,Nat.le_refl _,fun _=>Kd.C_nil FileK _,HB9.out⟩
 ·skip
  have HG1:=HG.out
  rw [if_pos hrt] at HG1
  replace HG1:=Lib.hid HG1
  have HZ:=I.out.now.2.1
  have HZF:=Lib.hid (store4_box HZ (.string ⟨#[]⟩) (.int .u8 0) (.string ⟨#[]⟩) (.slice none 0 0))
  have HB9:=Lib.hid (store4_below I.out.now.2.2.2 (g:=w.heap.size+1) (by omega) (.string ⟨#[]⟩) (.int .u8 0) (.string ⟨#[]⟩) (.slice none 0 0))
  obtain ⟨z0,z1,z2,z3⟩:=c4A HZ
  obtain ⟨u0,u1,u2,u3⟩:=u4A HZ
  go_wp2_with fail
  refine bodyPost_ret (results_ct rfl _ _ (w.heap.size+1) 25 zC (0,0) _ rfl HZF.out Tryz.underlying25 rfl (by kernel_rfl)) rfl ?_
  rw [← HG1.out]
  exact ⟨none,0,rfl,Nat.le_refl _,fun _=>Kd.C_nil FileK _,HB9.out⟩
theorem dropS (t:File) (A:Option Addr) (c:Nat) (Ap:Option Addr) (cp:Nat) (p:List ByteArray) (w:World) (ht:FileK.C w A t.files.length t.files) (hc:t.files.length≤c) (hbt:t.bulk≤1000000000) (hp:Kd.C Kd.string w Ap p.length p) (hcp:p.length≤cp) (hpl:p.length≤1000000000):Calls Tryz.prog 114 #[.agg (fc t A c),.slice Ap p.length cp] w fun e w'=>AnsS w.heap.size w'.heap.size (dropA t p) e w'∧Below w.heap.size w w':=by
 rcases nil_or_snoc p with rfl | ⟨q,n,rfl⟩
 ·refine (show Calls Tryz.prog 114 #[fileV t A c,.slice Ap 0 cp] w _ from tdrop0_calls t A c Ap cp w ht hc hbt).mono ?_
  rintro e w' ⟨A',c',h1,h2,h3,hb⟩
  exact ⟨⟨A',c',h1,h2,fun W' _=>h3 W'⟩,hb⟩
 ·rw [dropA_snoc]
  rw [List.length_append,List.length_singleton] at hcp hpl ⊢
  refine (show Calls Tryz.prog 114 #[fileV t A c,.slice Ap (q.length+1) cp] w _ from drop_calls t A c Ap cp q n w ht hc hbt hp hcp (by omega)).mono ?_
  rintro e w' ⟨A',c',h1,h2,h3,hb⟩
  exact ⟨⟨A',c',h1,h2,h3⟩,hb⟩
theorem putS (t f:File) (A Af:Option Addr) (c cf:Nat) (Ap:Option Addr) (cp:Nat) (p:List ByteArray) (w:World) (ht:FileK.C w A t.files.length t.files) (hc:t.files.length≤c) (hbt:t.bulk≤1000000000) (hp:Kd.C Kd.string w Ap p.length p) (hcp:p.length≤cp) (hpl:p.length≤1000000000) (hf:FileK.C w Af f.files.length f.files) (hcf:f.files.length≤cf) (hbf:f.bulk≤1000000000) (hn:∀ n∈p,n.size≤1000000000):Calls Tryz.prog 115 #[.agg (fc t A c),.slice Ap p.length cp,.agg (fc f Af cf)] w fun e w'=>AnsS w.heap.size w'.heap.size (putA t p f) e w'∧Below w.heap.size w w':=by
 rcases nil_or_snoc p with rfl | ⟨q,n,rfl⟩
 ·refine (show Calls Tryz.prog 115 #[fileV t A c,.slice Ap 0 cp,fileV f Af cf] w _ from tput0_calls t f A Af c cf Ap cp w ht hc hbt).mono ?_
  rintro e w' ⟨A',c',h1,h2,h3,hb⟩
  exact ⟨⟨A',c',h1,h2,fun W' _=>h3 W'⟩,hb⟩
 ·rw [putA_snoc]
  have hn1:=hn n (by simp)
  rw [List.length_append,List.length_singleton] at hcp hpl ⊢
  refine (show Calls Tryz.prog 115 #[fileV t A c,.slice Ap (q.length+1) cp,fileV f Af cf] w _ from put_calls t f A Af c cf Ap cp q n w ht hc hbt hf hcf hbf hn1 hp hcp (by omega)).mono ?_
  rintro e w' ⟨A',c',h1,h2,h3,hb⟩
  exact ⟨⟨A',c',h1,h2,h3⟩,hb⟩
theorem sameC (x:File) (A B:Option Addr) (c d:Nat) (W:World) (hx:x.bulk≤1099511627776) (hA:FileK.C W A x.files.length x.files) (hc:x.files.length≤c) (hB:FileK.C W B x.files.length x.files) (hd:x.files.length≤d) :
  Calls Tryz.prog 11 #[.agg (fc x A c),.agg (fc x B d)] W fun e w'=>e=.returned (.bool true)∧Below W.heap.size W w' :=
 (show Calls Tryz.prog 11 #[fileV x A c,fileV x B d] W _ from rsame_file _ x x A c B d W (Nat.le_refl _) hx hA hc hB hd).mono (by
  rintro e w' ⟨rfl,hb⟩
  exact ⟨by rw [sameT_self],hb⟩)
end Go.Proofs.YthlcjjhfkldmhaaGreatDoor.G
end
section
namespace Go.Proofs.YthlcjjhfkldmhaaGreatDoor.G
open Go.RowKit Go.Lib Go.Proofs.YthlcjjhfkldmhaaGreatDoorW.PrintWords Go.Proofs.YthlcjjhfkldmhaaGreatDoorW.PrintLast
set_option linter.unusedVariables false
structure Call where
  kind:Int
  path:List ByteArray
  dest:List ByteArray
  why:Int
structure Req where
  p:List ByteArray
  dest:List ByteArray
  data:ByteArray
structure Told where
  kind:Int
  size:Int
  data:ByteArray
def told0 (d:ByteArray):Told:=⟨0,0,d⟩
def textF (d:ByteArray):File:=⟨⟨#[]⟩,2,d,[]⟩
def putV (t:File) (p:List ByteArray) (s:File):File×Int:=if (putA t p s).2=0 then putA t p s else (t,(putA t p s).2)
def lstatR (t:File) (x:Req):File×Told×Int :=
  let r:=walkR t x.p false
  if r.2.2.2=0 then (if r.2.2.1=true then (t,⟨r.2.1.kind,r.2.1.data.size,x.data⟩,0) else (t,told0 x.data,31)) else (t,told0 x.data,r.2.2.2)
def readV (t:File) (x:Req):File×Told×Int :=
  let r:=walkR t x.p true
  if r.2.2.2=0 then (if r.2.2.1=true then (if r.2.1.kind=1 then (t,told0 x.data,40) else (t,told0 r.2.1.data,0)) else (t,told0 x.data,31)) else (t,told0 x.data,r.2.2.2)
def createR (t:File) (x:Req):File×Told×Int :=
  let r:=walkR t x.p true
  if r.2.2.2=0 then (if r.2.2.1=true∧r.2.1.kind=1 then (t,told0 x.data,40) else ((putV t r.1 (textF ⟨#[]⟩)).1,told0 x.data,(putV t r.1 (textF ⟨#[]⟩)).2)) else (t,told0 x.data,r.2.2.2)
def appendR (t:File) (x:Req):File×Told×Int :=
  let r:=walkR t x.p true
  if r.2.2.2=0 then (if r.2.2.1=true then (if r.2.1.kind=1 then (t,told0 x.data,40) else ((putV t r.1 (textF (r.2.1.data++x.data))).1,told0 x.data,(putV t r.1 (textF (r.2.1.data++x.data))).2)) else (t,told0 x.data,31)) else (t,told0 x.data,r.2.2.2)
def renameR (t:File) (x:Req):File×Told×Int :=
  let r:=walkR t x.p false
  if r.2.2.2=0 then (if r.2.2.1=true then (if r.2.1.kind=1 then (t,told0 x.data,40) else
      (let q:=walkR t x.dest false
       if q.2.2.2=0 then (if q.2.2.1=true∧q.2.1.kind=1 then (t,told0 x.data,40) else
          (if r.1=q.1 then (t,told0 x.data,0) else
            (let d:=dropA t r.1
             if d.2=0 then (let u:=putA d.1 q.1 r.2.1
               if u.2=0 then (u.1,told0 x.data,0) else (t,told0 x.data,u.2)) else (t,told0 x.data,d.2))))
       else (t,told0 x.data,q.2.2.2)))
    else (t,told0 x.data,31)) else (t,told0 x.data,r.2.2.2)
def opR (kind:Int):File→Req→File×Told×Int :=
  if kind=1 then lstatR else if kind=2 then readV else if kind=3 then createR else if kind=4 then appendR else renameR
structure FsV where
  tree:File
  trace:List Call
  faults:List Int
def callV (f:FsV) (kind:Int) (x:Req):FsV×Told×Int :=
  if P.rightB x.p=true∧P.rightB x.dest=true then
    (let r:=if (f.trace.length:Int)∈f.faults then (f.tree,told0 x.data,42) else opR kind f.tree x
     ({f with tree:=r.1,trace:=f.trace++[⟨kind,x.p,if kind=5 then x.dest else [],r.2.2⟩]},r.2.1,r.2.2))
  else (f,told0 x.data,20)
end Go.Proofs.YthlcjjhfkldmhaaGreatDoor.G
end
end
end
section
section
namespace Go.Proofs.YthlcjjhfkldmhaaGreatDoor.G
open Go.RowKit Go.Lib Go.Proofs.YthlcjjhfkldmhaaGreatDoorW.PrintWords Go.Proofs.YthlcjjhfkldmhaaGreatDoorW.PrintLast
set_option linter.unusedVariables false
theorem pr_memL {p:List ByteArray} {y:List ByteArray×File}:∀ {l:List File},y∈preL p l↔∃ x∈l,y=(p++[x.name],x)∨y∈preF (p++[x.name]) x
 | []=>by simp [preL]
 | x :: l=>by
  rw [preL,List.mem_cons,List.mem_append,pr_memL]
  constructor
  ·rintro (h | h | ⟨z,hz,h⟩)
   ·exact ⟨x,List.mem_cons_self,.inl h⟩
   ·exact ⟨x,List.mem_cons_self,.inr h⟩
   ·exact ⟨z,List.mem_cons_of_mem _ hz,h⟩
  ·rintro ⟨z,hz,h⟩
   rcases List.mem_cons.1 hz with rfl | hz
   ·exact h.imp id .inl
   ·exact .inr (.inr ⟨z,hz,h⟩)
theorem pr_mem {p:List ByteArray} {y:List ByteArray×File} {f:File}:y∈preF p f↔∃ x∈f.files,y=(p++[x.name],x)∨y∈preF (p++[x.name]) x:=by
 rw [preF_eq]
 exact pr_memL
theorem find_own {l:List File} (hs:SortedN l) {x:File} (hx:x∈l):l.find? (nameIs x.name)=some x:=by
 induction l with
 | nil=>cases hx
 | cons y l ih =>
  rw [SortedN,List.pairwise_cons] at hs
  rcases List.mem_cons.1 hx with rfl | hx
  ·rw [List.find?_cons,nameIs_iff.2 rfl]
  ·have hne:nameIs x.name y=false:=nameIs_ne (less_ne (hs.1 x hx))
   rw [List.find?_cons,hne]
   exact ih hs.2 hx
theorem pr_goes:∀ (n:Nat) (f:File) (p:List ByteArray) (e:List ByteArray×File),f.bulk≤n→SortF f→(∀ z∈preF p f,z.2.kind=1∨z.2.files=[])→(f.kind=1∨f.files=[])→e∈preF p f→∃ m s,e.1=p++m :: s∧goP f (m :: s)=(0,some e.2)
 | 0,f,p,e,hn,_,_,_,_=>by have:=bulk_eq f;omega
 | n+1,f,p,e,hn,hs,hz,hk,he=>by
  obtain ⟨x,hx,h⟩:=pr_mem.1 he
  have hk1:f.kind=1:=hk.resolve_right fun h=>by rw [h] at hx;cases hx
  have hs':=hs
  rw [SortF_eq] at hs'
  have hf:=find_own hs'.1 hx
  rcases h with rfl | h
  ·exact ⟨x.name,[],rfl,by rw [goP_find hs,if_pos hk1,hf];rfl⟩
  ·have hxm:(p++[x.name],x)∈preF p f:=pr_mem.2 ⟨x,hx,.inl rfl⟩
   have hb:=bulk_child hx
   obtain ⟨m,s,h1,h2⟩:=pr_goes n x (p++[x.name]) e (by omega) (SortL_mem.1 hs'.2 x hx) (fun z h=>hz z (pr_mem.2 ⟨x,hx,.inr h⟩)) (hz _ hxm) h
   exact ⟨x.name,m :: s,by rw [h1,List.append_assoc];rfl,by rw [goP_find hs,if_pos hk1,hf];exact h2⟩
theorem go_pr:∀ (s:List ByteArray) (m:ByteArray) (f y:File) (p:List ByteArray) (k:Int),SortF f→goP f (m :: s)=(k,some y)→(p++m :: s,y)∈preF p f
 | [],m,f,y,p,k,hs,h=>by
  obtain ⟨x,_,hx,rfl,h2⟩:=goP_full h
  rw [goP] at h2
  injection h2 with _ h2
  injection h2 with h2
  subst h2
  exact pr_mem.2 ⟨x,List.mem_of_getElem? hx,.inl rfl⟩
 | n :: s,m,f,y,p,k,hs,h=>by
  obtain ⟨x,_,hx,rfl,h2⟩:=goP_full h
  rw [SortF_eq] at hs
  have:=go_pr s n x y (p++[x.name]) k (SortL_mem.1 hs.2 x (List.mem_of_getElem? hx)) h2
  rw [List.append_assoc] at this
  exact pr_mem.2 ⟨x,List.mem_of_getElem? hx,.inr this⟩
theorem cmp_app:∀ (q a b:List ByteArray),cmpP (q++a) (q++b)=cmpP a b
 | [],a,b=>rfl
 | x :: q,a,b=>by rw [List.cons_append,List.cons_append,cmpP,if_pos rfl];exact cmp_app q a b
theorem cmp_below (q:List ByteArray) (m:ByteArray) (s:List ByteArray):cmpP q (q++m :: s)<0:=by
 have h:=cmp_app q [] (m :: s)
 rw [List.append_nil] at h
 rw [h]
 show (-1:Int)<0
 omega
theorem pr_less:∀ a b:List UInt8,Op.bytesLess a b=decide (compareBytes a b<0)
 | [],[]=>rfl
 | [],_ :: _=>rfl
 | _ :: _,[]=>rfl
 | x :: a,y :: b=>by
  have ih:=pr_less a b
  unfold Op.bytesLess compareBytes
  simp only [UInt8.lt_iff_toNat_lt]
  by_cases h1:x.toNat<y.toNat
  ·simp [h1]
  ·by_cases h2:y.toNat<x.toNat
   ·have h3:(x == y)=false:=by rw [beq_eq_false_iff_ne];rintro rfl;omega
    simp [h1,h2,h3]
   ·have h3:x=y:=UInt8.toNat_inj.1 (by omega)
    simp [h1,h2,h3,ih]
theorem less_cmp {x y:ByteArray} (h:lessB x y=true) (r s:List ByteArray):cmpP (x :: r) (y :: s)<0:=by
 rw [cmpP,if_neg (less_ne h)]
 unfold lessB at h
 rw [pr_less,decide_eq_true_eq,Lib.toList_data,Lib.toList_data] at h
 exact h
theorem pr_sorted:∀ (n:Nat) (f:File) (p:List ByteArray),f.bulk≤n→SortF f→(preF p f).Pairwise (fun a b=>cmpP a.1 b.1<0)∧∀ e∈preF p f,∃ m s,e.1=p++m :: s∧∃ x∈f.files,x.name=m
 | 0,f,p,hn,_=>by have:=bulk_eq f;omega
 | n+1,f,p,hn,hs=>by
  have hs':=hs
  rw [SortF_eq] at hs'
  have hall:∀ e∈preF p f,∃ m s,e.1=p++m :: s∧∃ x∈f.files,x.name=m:=fun e he=>by
   obtain ⟨x,hx,h⟩:=pr_mem.1 he
   rcases h with rfl | h
   ·exact ⟨x.name,[],rfl,x,hx,rfl⟩
   ·have hb:=bulk_child hx
    obtain ⟨m,s,h1,_⟩:=(pr_sorted n x (p++[x.name]) (by omega) (SortL_mem.1 hs'.2 x hx)).2 e h
    exact ⟨x.name,m :: s,by rw [h1,List.append_assoc];rfl,x,hx,rfl⟩
  refine ⟨?_,hall⟩
  rw [preF_eq]
  have hbl:∀ x∈f.files,x.bulk≤n∧SortF x:=fun x hx=>⟨by have:=bulk_child hx;omega,SortL_mem.1 hs'.2 x hx⟩
  generalize f.files=l at hbl hs'
  have hsn:=hs'.1
  clear hall hs' hs hn
  induction l with
  | nil=>exact .nil
  | cons x l ih =>
   rw [SortedN,List.pairwise_cons] at hsn
   have hx:=hbl x List.mem_cons_self
   have hi:=pr_sorted n x (p++[x.name]) hx.1 hx.2
   have hl:=ih (fun y hy=>hbl y (List.mem_cons_of_mem _ hy)) hsn.2
   have hfar:∀ e∈preL p l,∃ m s,e.1=p++m :: s∧lessB x.name m=true:=fun e he=>by
    obtain ⟨y,hy,h⟩:=pr_memL.1 he
    rcases h with rfl | h
    ·exact ⟨y.name,[],rfl,hsn.1 y hy⟩
    ·have hy2:=hbl y (List.mem_cons_of_mem _ hy)
     obtain ⟨m,s,h1,_⟩:=(pr_sorted n y (p++[y.name]) hy2.1 hy2.2).2 e h
     exact ⟨y.name,m :: s,by rw [h1,List.append_assoc];rfl,hsn.1 y hy⟩
   rw [preL,List.pairwise_cons,List.pairwise_append]
   refine ⟨fun e he => ?_,hi.1,hl,fun a ha b hb => ?_⟩
   ·rcases List.mem_append.1 he with he | he
    ·obtain ⟨m,s,h1,_⟩:=hi.2 e he
     simp only
     rw [h1]
     exact cmp_below _ m s
    ·obtain ⟨m,s,h1,h2⟩:=hfar e he
     simp only
     rw [h1,cmp_app]
     exact less_cmp h2 _ _
   ·obtain ⟨m,s,h1,_⟩:=hi.2 a ha
    obtain ⟨m2,s2,h3,h4⟩:=hfar b hb
    rw [h1,h3,List.append_assoc,cmp_app]
    exact less_cmp h4 _ _
def lookK (t:File) (p:List ByteArray):Option (Int×ByteArray):=match goP t p with
 | (_,some y)=>some (y.kind,y.data)
 | (_,none)=>none
theorem look_some {t:File} {p:List ByteArray} {x:Int×ByteArray} (h:lookK t p=some x):∃ y,goP t p=(0,some y)∧x=(y.kind,y.data):=by
 unfold lookK at h
 split at h
 ·rename_i k y hg
  obtain rfl:=goP_zero p t y k hg
  injection h with h
  exact ⟨y,hg,h.symm⟩
 ·cases h
theorem look_go {t y:File} {p:List ByteArray} {k:Int} (h:goP t p=(k,some y)):lookK t p=some (y.kind,y.data):=by unfold lookK;rw [h]
end Go.Proofs.YthlcjjhfkldmhaaGreatDoor.G
end
section
namespace Go.Proofs.YthlcjjhfkldmhaaGreatDoor.G
open Go.RowKit Go.Lib Go.Proofs.YthlcjjhfkldmhaaGreatDoorW.PrintWords Go.Proofs.YthlcjjhfkldmhaaGreatDoorW.PrintLast
set_option linter.unusedVariables false
def CallK:Kd Call:=Kd.iso (Kd.pair (Kd.int .u8) (Kd.pair (Kd.slice 9 Kd.string) (Kd.pair (Kd.slice 9 Kd.string) (Kd.int .i64)))) (fun x:Call=>(x.kind,x.path,x.dest,x.why))
theorem call_mkM (w:World) (base:Nat) (ok:Nat→Prop) (x:Call) {v u:Value} (g:Kd.R Kd.string 9 w base ok v x.path) (k:Kd.R Kd.string 9 w base ok u x.dest):CallK.M w base ok x [.int .u8 x.kind,v,u,.int .i64 x.why] :=
 ⟨[.int .u8 x.kind],[v,u,.int .i64 x.why],rfl,rfl,⟨[v],[u,.int .i64 x.why],rfl,⟨v,rfl,g⟩,⟨[u],[.int .i64 x.why],rfl,⟨u,rfl,k⟩,rfl⟩⟩⟩
end Go.Proofs.YthlcjjhfkldmhaaGreatDoor.G
end
end
end
