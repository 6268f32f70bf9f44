import Derived.Test.YtdnhjnlhmfajnaaGreatDoorTQuote
import Derived.Test.YtdnhjnlhmfajnaaGreatDoorRangeR
import Derived.Maps.AppendAt
set_option linter.unusedVariables false
set_option linter.unusedSimpArgs false
namespace Go.Proofs.YtdnhjnlhmfajnaaGreatDoor.G
open Go.RowKit Go.Lib Go.Proofs.YtdnhjnlhmfajnaaGreatDoorW.PrintWords Go.Proofs.YtdnhjnlhmfajnaaGreatDoorW.PrintLast
set_option linter.unusedVariables false
def BAt (B b:Nat) (l:List UInt8) (v:Value) (w:World):Prop :=
 B≤b∧(∃ p,(p=.pointer none∨p=.pointer (some ⟨b,0,none⟩))∧w.heap[b]? = some (.cells #[p,v] 66 (0,0)))∧w.ownsRow B 5 1 v l.length (Lib.byteCells l)∧v.ownBlock≠some b
def BOwn (b:Nat) (v:Value) (k:Nat):Prop:=k=b∨v.ownBlock=some k
theorem Only.of_grown {w w':World} {row:Option Nat} (h:w.grownBy w' row) {F:Nat→Prop} (hF:∀ k,row=some k→F k):Only F w w' :=
 ⟨h.os,h.tape,h.output,h.size,fun k hk hn=>h.block k hk (fun e=>hn (hF k e.symm))⟩
set_option maxHeartbeats 4000000 in
set_option maxRecDepth 100000 in
theorem copyF_calls (B b:Nat) (l:List UInt8) (v:Value) (w:World) (h:BAt B b l v w) :
  Calls Tryz.prog 80 #[.pointer (some ⟨b,0,none⟩)] w fun e w'=>e=.returned (.tuple #[])∧w'.heap[b]? = some (.cells #[.pointer (some ⟨b,0,none⟩),v] 66 (0,0))∧w'.ownsRow B 5 1 v l.length (Lib.byteCells l)∧Only (· = b) w w'∧w'.heap.size=w.heap.size:=by
 obtain ⟨j,hj,hjs⟩:=Option.map_eq_some_iff.1 (show (Tryz.prog.info? 66).map (·.size)=some 2 by kernel_rfl)
 obtain ⟨hB,⟨p,hp,hb⟩,ho,hne⟩:=h
 rcases hp with rfl | rfl
 ·have c0:w.cell? ⟨b,0,none⟩=some (.pointer none):=by simp [World.cell?,hb]
  have f0:w.frozen? ⟨b,0,none⟩=false:=by simp [World.frozen?,hb]
  have hsh:w.shape? b=some (66,2):=by simp [World.shape?,hb]
  have HSH:=Lib.hid hsh
  have H1:Hid ((w.setCell ⟨b,0,none⟩ (.pointer (some ⟨b,0,none⟩))).heap[b]? = some (.cells #[.pointer (some ⟨b,0,none⟩),v] 66 (0,0))):=Lib.hid (by simpa using blk_put (cs:=#[.pointer none,v]) hb 0 (.pointer (some ⟨b,0,none⟩)) rfl)
  have H2:=Lib.hid (own_setCell ho (fun e=>hne e.symm) (p:=⟨b,0,none⟩) (.pointer (some ⟨b,0,none⟩)))
  have H3:Hid (Only (· = b) w (w.setCell ⟨b,0,none⟩ (.pointer (some ⟨b,0,none⟩)))):=Lib.hid (Only.setCell w ⟨b,0,none⟩ _)
  have H4:=Lib.hid (show (w.setCell ⟨b,0,none⟩ (.pointer (some ⟨b,0,none⟩))).heap.size=w.heap.size by simp [World.setCell])
  clear ho hb hsh
  go_enter Tryz.func80,Tryz.ntmps80
  go_wp2
  rw [Lib.run_to_unsafe (w:=w) ⟨b,0,none⟩ Tryz.underlying63 Tryz.underlying161 hj (by rw [hjs];decide) HSH.out (Nat.zero_lt_succ 1)]
  simp only [Result.andThen]
  rw [Oper.upon_value]
  go_wp2
  rw [run_callFunc_extern Tryz.func115 (by kernel_rfl) (by kernel_rfl) (by kernel_rfl) (e:=Extern.AbiNoEscape.same) (by kernel_rfl),Lib.run_noEscape]
  simp only [Result.andThen]
  rw [Oper.upon_value]
  go_wp2
  rw [Lib.run_from_unsafe (w:=w) ⟨b,0,none⟩ Tryz.underlying161 Tryz.underlying63 hj HSH.out (by kernel_rfl)]
  simp only [Result.andThen]
  rw [Oper.upon_value]
  go_wp2
  go_end0
  exact ⟨rfl,H1.out,H2.out,H3.out,H4.out⟩
 ·have c0:w.cell? ⟨b,0,none⟩=some (.pointer (some ⟨b,0,none⟩)):=by simp [World.cell?,hb]
  have H1:=Lib.hid hb
  have H2:=Lib.hid ho
  clear ho hb
  go_enter Tryz.func80,Tryz.ntmps80
  go_wp2
  rw [Lib.run_neq_ptr_same w _ Tryz.underlying63 hj]
  go_wp2
  go_end0
  exact ⟨rfl,H1.out,H2.out,Only.refl _ _,rfl⟩
theorem append_string_at {P:Program} (w:World) (base:Nat) (t u ty e:TypeId) (i:TypeInfo) (ht:P.underlying t=some (.slice e)) (hu:P.underlying u=some .string) (hi:P.info? e=some i) (hz:i.zero=some (.int .u8 0)) (hsize:i.size=1) (hby:i.bytes=1)
  (v:Value) (n:Nat) (xs:List Value) (hown:w.ownsRow base e 1 v n xs) (s:ByteArray) (h63:n+s.size≤maxLen) (hbytes:n+s.size≤140737488355328) (hbase:base≤w.heap.size) :
  ∃ v' w',(Builtin.append_ #[t,u] ty #[v,.string s]).run P w=.ok v' w'∧w'.ownsRow base e 1 v' (n+s.size) (xs++strCells s)∧w.grownBy w' v.ownBlock∧(v'.ownBlock=v.ownBlock∨v'.ownBlock=some w.heap.size):=by
 obtain ⟨v',w',hr,h2,h3,h4⟩:=run_append_own_string (P:=P) w base t u ty e i ht hu hi hz hsize hby v n xs hown s h63 hbytes hbase
 refine ⟨v',w',hr,h2,h3,?_⟩
 have hxl:xs.length=n:=by simpa using hown.1
 have hm:maxLen=9223372036854775807:=rfl
 rcases hown.2 with ⟨rfl,rfl⟩ | ⟨g,cap,cur,rfl,hbg,hg,hnc,hcm,hcs,htake⟩
 ·by_cases h0:s.size=0
  ·rw [h4.2 ⟨rfl,h0⟩]
   exact .inl rfl
  ·have h5:=run_append_nil_string (P:=P) w t u ty e i (.int .u8 0) ht hu hi hz s (by omega) (by omega) (by rw [hby];omega)
   rw [hr] at h5
   injection h5 with h5 h6
   subst h5
   exact .inr rfl
 ·by_cases hroom:n+s.size≤cap
  ·have hcs':cur.size=cap:=by simpa using hcs
   have h5:=run_append_room_string (P:=P) w t u ty e i ht hu hi hsize g n cap cur hg s hroom (by omega)
   rw [hr] at h5
   injection h5 with h5 h6
   subst h5
   exact .inl rfl
  ·have h5:=run_append_grow_string (P:=P) w t u ty e i (.int .u8 0) ht hu hi hz ⟨g,0,none⟩ n cap xs (by rw [hsize];simpa using hxl) (hown.cells (g:=g) rfl) s (by omega) (by omega) (by rw [hby];exact growslice_fits (by omega) (by omega))
   rw [hr] at h5
   injection h5 with h5 h6
   subst h5
   exact .inr rfl
theorem wpList_append_string_at {P:Program} {w:World} {ops:Array Oper} {rest:List Oper} {o:Oper} {a:Act} {Q:Exit→Act→World→Prop} (hgd:o.guard=none) (sl x:Operand) (t u:TypeId)
  (ho:o.op=.call {callee:=.builtin .append,args:=#[sl,x],argTypes:=#[t,u]}) (base:Nat) (e:TypeId) (i:TypeInfo) (ht:P.underlying t=some (.slice e)) (hu:P.underlying u=some .string) (hi:P.info? e=some i) (hz:i.zero=some (.int .u8 0)) (hsize:i.size=1) (hby:i.bytes=1)
  (v:Value) (n:Nat) (xs:List Value) (hs:a.eval sl=v) (hown:w.ownsRow base e 1 v n xs) (s:ByteArray) (hx:a.eval x=.string s) (h63:n+s.size≤maxLen) (hbytes:n+s.size≤140737488355328) (hbase:base≤w.heap.size)
  (h:∀ v' w',w'.ownsRow base e 1 v' (n+s.size) (xs++strCells s)→w.grownBy w' v.ownBlock→(v'.ownBlock=v.ownBlock∨v'.ownBlock=some w.heap.size)→wpList P ops Q rest (a.put o.dst v') w'):wpList P ops Q (o :: rest) a w:=by
 refine wpList_plain hgd fun K hK => ?_
 obtain ⟨v',w',hr,h2,h3,h4⟩:=append_string_at (P:=P) w base t u o.type e i ht hu hi hz hsize hby v n xs hown s h63 hbytes hbase
 unfold Oper.wp execOp
 simp only [ho,resolve,invoke,builtin,Sem.run_bind,Sem.run_pure,Result.andThen_ok,List.map_toArray,List.map_cons,List.map_nil,hs,hx,hr]
 exact hK _ _ (h v' w' h2 h3 h4)
set_option maxHeartbeats 4000000 in
set_option maxRecDepth 100000 in
theorem writeStringF_calls (B b:Nat) (l:List UInt8) (v:Value) (s:ByteArray) (w:World) (h:BAt B b l v w) (hlen:l.length+s.size≤70368744177664) (hBw:B≤w.heap.size) :
  Calls Tryz.prog 38 #[.pointer (some ⟨b,0,none⟩),.string s] w fun e w'=>e=.returned (.tuple #[.int .i64 s.size,.nilIface])∧∃ v2,BAt B b (l++s.data.toList) v2 w'∧Only (BOwn b v) w w'∧(∀ k,v2.ownBlock=some k→BOwn b v k∨(w.heap.size≤k∧k<w'.heap.size)):=by
 obtain ⟨i0,hi,hzz⟩:=Option.map_eq_some_iff.1 info_byte
 simp only [Prod.mk.injEq] at hzz
 obtain ⟨hz0,hz1,hz2⟩:=hzz
 have hbl:(Lib.byteCells l).length=l.length:=by simp [Lib.byteCells]
 have hBb:=h.1
 have HNE:=Lib.hid h.2.2.2
 have HC:=Lib.hid (copyF_calls B b l v w h)
 clear h
 go_enter Tryz.func38,Tryz.ntmps38
 go_wp2_with fail
 refine HC.out.mono ?_
 rintro e w1 ⟨rfl,hbk,hown,hb1,hs0⟩
 have hs1:=Nat.le_of_eq hs0.symm
 clear hs0
 have c1:w1.cell? ⟨b,1,none⟩=some v:=by simp [World.cell?,hbk]
 have HBK:=Lib.hid hbk
 have HB1:=Lib.hid hb1
 have hlt:=blk_lt hbk
 have HOW:=Lib.hid hown
 obtain ⟨ao,cp,rfl⟩:=own_slice hown
 clear hbk hb1 hown HC hbl
 go_wp2_with (at_builtin;(refine wpList_append_string_at rfl (.tmp 12) (.tmp 13) 64 9 rfl B 5 i0 Tryz.underlying64 Tryz.underlying9 hi hz0 hz1 hz2 _ _ _ rfl HOW.out s rfl (by unfold maxLen;omega) (by omega) (by omega) ?_);intro v2 w2 ho2 hg2 hat2;have hbk2:=(hg2.block b hlt (fun e=>HNE.out e.symm)).trans HBK.out;have hne2:=own_ne ho2 hbk2 (by decide);have HX:Hid (BAt B b (l++s.data.toList) v2 (w2.setCell ⟨b,1,none⟩ v2)):=Lib.hid (⟨hBb,⟨_,.inr rfl,by simpa using blk_put hbk2 1 v2 rfl⟩,by rw [← cells_append,List.length_append,← Lib.size_eq];exact own_setCell ho2 hne2 _,fun e=>hne2 e.symm⟩);have HY:Hid (Only (BOwn b (.slice ao l.length cp)) w (w2.setCell ⟨b,1,none⟩ v2)):=Lib.hid ((HB1.out.trans (Only.of_grown hg2 (F:=BOwn b (.slice ao l.length cp)) (fun k e=>.inr e)) (K:=BOwn b (.slice ao l.length cp)) (fun _ _ e=>.inl e) (fun _ _ h=>h)).trans (Only.setCell _ _ _) (fun _ _ h=>h) (fun _ _ e=>.inl e));have HZ:Hid (∀ k,v2.ownBlock=some k→BOwn b (.slice ao l.length cp) k∨(w.heap.size≤k∧k<(w2.setCell ⟨b,1,none⟩ v2).heap.size)):=Lib.hid (fun k hk=>(hat2.elim (fun e=>.inl (.inr (e.symm.trans hk))) (fun e=>.inr (by have hlt2:=own_lt ho2 k hk;rw [hk] at e;injection e with e;exact ⟨by omega,by simpa [World.setCell] using hlt2⟩))));have c2:=World.grownBy.cell hg2 c1 (fun e=>HNE.out e.symm);have f2:w2.frozen? ⟨b,1,none⟩=false:=(by simp [World.frozen?,hbk2]);obtain ⟨a2,cp2,rfl⟩:=own_slice ho2;clear ho2 hg2 hbk2 hne2 hat2)
 go_ret2
 exact ⟨rfl,_,HX.out,HY.out,HZ.out⟩
set_option maxHeartbeats 4000000 in
set_option maxRecDepth 100000 in
theorem writeByteF_calls (B b:Nat) (l:List UInt8) (v:Value) (x:UInt8) (w:World) (h:BAt B b l v w) (hlen:l.length≤70368744177664) (hBw:B≤w.heap.size) :
  Calls Tryz.prog 42 #[.pointer (some ⟨b,0,none⟩),.int .u8 x.toNat] w fun e w'=>e=.returned .nilIface∧∃ v2,BAt B b (l++[x]) v2 w'∧Only (BOwn b v) w w'∧(∀ k,v2.ownBlock=some k→BOwn b v k∨(w.heap.size≤k∧k<w'.heap.size)):=by
 have hbl:(Lib.byteCells l).length=l.length:=by simp [Lib.byteCells]
 have hBb:=h.1
 have HNE:=Lib.hid h.2.2.2
 have HC:=Lib.hid (copyF_calls B b l v w h)
 clear h
 go_enter Tryz.func42,Tryz.ntmps42
 go_wp2_with fail
 refine HC.out.mono ?_
 rintro e w1 ⟨rfl,hbk,hown,hb1,hs0⟩
 have hs1:=Nat.le_of_eq hs0.symm
 clear hs0
 have c1:w1.cell? ⟨b,1,none⟩=some v:=by simp [World.cell?,hbk]
 have HBK:=Lib.hid hbk
 have HB1:=Lib.hid hb1
 have hlt:=blk_lt hbk
 have HOW:Hid (w1.ownsRow B 5 1 v (Lib.byteCells l).length (Lib.byteCells l)):=Lib.hid (by rw [hbl];exact hown)
 obtain ⟨ao,cp,hv⟩:=own_slice hown
 subst hv
 have HBL:=Lib.hid hbl
 clear hbk hb1 hown HC hbl
 go_wp2_with (at_builtin;refine print_append (w0:=w1) B rfl (.tmp 11) (.tmp 13) 64 5 (.int .u8 0) 1 rfl Tryz.underlying64 info_byte rfl (by decide) _ (Lib.byteCells l) (.int .u8 x.toNat) rfl rfl rfl HOW.out (Below.refl _ _) (by omega) (by rw [HBL.out];omega) ?_;intro v2 w2 ho2 hb2 hg2 hat2;have hbk2:=(hg2.block b hlt (fun e=>HNE.out e.symm)).trans HBK.out;have hne2:=own_ne ho2 hbk2 (by decide);have HX:Hid (BAt B b (l++[x]) v2 (w2.setCell ⟨b,1,none⟩ v2)):=Lib.hid (⟨hBb,⟨_,.inr rfl,by simpa using blk_put hbk2 1 v2 rfl⟩,by rw [Lib.byteCells_append,show (l++[x]).length=(Lib.byteCells l++[Value.int .u8 x.toNat]).length by rw [List.length_append,List.length_append,HBL.out];rfl];exact own_setCell ho2 hne2 _,fun e=>hne2 e.symm⟩);have HY:Hid (Only (BOwn b (.slice ao l.length cp)) w (w2.setCell ⟨b,1,none⟩ v2)):=Lib.hid ((HB1.out.trans (Only.of_grown hg2 (F:=BOwn b (.slice ao l.length cp)) (fun k e=>.inr e)) (K:=BOwn b (.slice ao l.length cp)) (fun _ _ e=>.inl e) (fun _ _ h=>h)).trans (Only.setCell _ _ _) (fun _ _ h=>h) (fun _ _ e=>.inl e));have HZ:Hid (∀ k,v2.ownBlock=some k→BOwn b (.slice ao l.length cp) k∨(w.heap.size≤k∧k<(w2.setCell ⟨b,1,none⟩ v2).heap.size)):=Lib.hid (fun k hk=>(hat2.elim (fun e=>.inl (.inr (e.symm.trans hk))) (fun e=>.inr (by obtain ⟨q,hq,hqs⟩:=e;have hlt2:=own_lt ho2 k hk;rw [hk] at hq;injection hq with hq;exact ⟨by omega,by simpa [World.setCell] using hlt2⟩))));have c2:=World.grownBy.cell hg2 c1 (fun e=>HNE.out e.symm);have f2:w2.frozen? ⟨b,1,none⟩=false:=(by simp [World.frozen?,hbk2]);obtain ⟨a2,cp2,rfl⟩:=own_slice ho2;have hlq:(Lib.byteCells l++[Value.int .u8 x.toNat]).length=l.length+1:=(by rw [List.length_append,HBL.out];rfl);rw [hlq] at HX HY HZ ⊢;clear ho2 hg2 hbk2 hne2 hb2 hlq hat2)
 go_ret
 exact ⟨rfl,_,HX.out,HY.out,HZ.out⟩
end Go.Proofs.YtdnhjnlhmfajnaaGreatDoor.G
