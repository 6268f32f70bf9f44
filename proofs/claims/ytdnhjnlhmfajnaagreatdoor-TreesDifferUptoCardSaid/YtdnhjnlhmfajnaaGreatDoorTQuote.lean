import Derived.Test.YtdnhjnlhmfajnaaGreatDoorTBelow
import Derived.Lib.AppendStr
import Derived.Lib.Builder
import Derived.Handy
set_option linter.unusedVariables false
set_option linter.unusedSimpArgs false
section
namespace Go.Proofs.YtdnhjnlhmfajnaaGreatDoor.G
open Go.RowKit Go.Lib Go.Proofs.YtdnhjnlhmfajnaaGreatDoorW.PrintWords Go.Proofs.YtdnhjnlhmfajnaaGreatDoorW.PrintLast
set_option linter.unusedVariables false
def Built (B b:Nat) (l:List UInt8) (w:World):Prop:=Lib.IsBuilder 66 5 B b (Lib.byteCells l) w
def Used (B b:Nat) (bs:List Value) (w:World):Prop:=Lib.BuilderAt 66 5 B b (.pointer (some ⟨b,0,none⟩)) bs w
set_option maxHeartbeats 4000000 in
set_option maxRecDepth 100000 in
theorem copyCheck_calls (B b:Nat) (bs:List Value) (w:World) (h:Lib.IsBuilder 66 5 B b bs w) :
  Calls Tryz.prog 80 #[.pointer (some ⟨b,0,none⟩)] w fun e w'=>e=.returned (.tuple #[])∧Used B b bs w'∧Below B w w':=by
 obtain ⟨j,hj,hjs⟩:=Option.map_eq_some_iff.1 (show (Tryz.prog.info? 66).map (·.size)=some 2 by kernel_rfl)
 rcases h with ⟨hB,v,hb,ho,hne⟩ | ⟨hB,v,hb,ho,hne⟩
 ·have c0:w.cell? ⟨b,0,none⟩=some (.pointer none):=by simp [World.cell?,hb]
  have f0:w.frozen? ⟨b,0,none⟩=false:=by simp [World.frozen?,hb]
  have hsh:w.shape? b=some (66,2):=by simp [World.shape?,hb]
  have HSH:=Lib.hid hsh
  have HU:Hid (Used B b bs (w.setCell ⟨b,0,none⟩ (.pointer (some ⟨b,0,none⟩)))):=Lib.hid ⟨hB,v,by simpa using blk_put (cs:=#[.pointer none,v]) hb 0 (.pointer (some ⟨b,0,none⟩)) rfl,own_setCell ho (fun e=>hne e.symm) _,hne⟩
  have HB:=Lib.hid ((Below.refl B w).setCell (p:=⟨b,0,none⟩) hB (.pointer (some ⟨b,0,none⟩)))
  clear ho hb hsh
  go_enter Tryz.func80,Tryz.ntmps80
  go_wp2
  rw [Lib.run_to_unsafe (w:=w) ⟨b,0,none⟩ Tryz.underlying63 Tryz.underlying161 hj (by rw [hjs];decide) HSH.out (Nat.zero_lt_succ 1)]
  simp only [Result.andThen]
  rw [Oper.upon_value]
  go_wp2
  rw [run_callFunc_extern Tryz.func115 (by kernel_rfl) (by kernel_rfl) (by kernel_rfl) (e:=Extern.AbiNoEscape.same) (by kernel_rfl),Lib.run_noEscape]
  simp only [Result.andThen]
  rw [Oper.upon_value]
  go_wp2
  rw [Lib.run_from_unsafe (w:=w) ⟨b,0,none⟩ Tryz.underlying161 Tryz.underlying63 hj HSH.out (by kernel_rfl)]
  simp only [Result.andThen]
  rw [Oper.upon_value]
  go_wp2
  go_end0
  exact ⟨rfl,HU.out,HB.out⟩
 ·have c0:w.cell? ⟨b,0,none⟩=some (.pointer (some ⟨b,0,none⟩)):=by simp [World.cell?,hb]
  have HU:Hid (Used B b bs w):=Lib.hid ⟨hB,v,hb,ho,hne⟩
  clear ho hb
  go_enter Tryz.func80,Tryz.ntmps80
  go_wp2
  rw [Lib.run_neq_ptr_same w _ Tryz.underlying63 hj]
  go_wp2
  go_end0
  exact ⟨rfl,HU.out,Below.refl _ _⟩
theorem info_byte:(Tryz.prog.info? 5).map (fun i=>(i.zero,i.size,i.bytes))=some (some (.int .u8 0),1,1):=by kernel_rfl
theorem cells_append (l:List UInt8) (s:ByteArray):Lib.byteCells l++Lib.strCells s=Lib.byteCells (l++s.data.toList):=by simp [Lib.byteCells,Lib.strCells]
set_option maxHeartbeats 4000000 in
set_option maxRecDepth 100000 in
theorem writeString_calls (B b:Nat) (l:List UInt8) (s:ByteArray) (w:World) (h:Built B b l w) (hlen:l.length+s.size≤70368744177664) (hBw:B≤w.heap.size) :
  Calls Tryz.prog 38 #[.pointer (some ⟨b,0,none⟩),.string s] w fun e w'=>e=.returned (.tuple #[.int .i64 s.size,.nilIface])∧Built B b (l++s.data.toList) w'∧Below B w w':=by
 obtain ⟨i0,hi,hzz⟩:=Option.map_eq_some_iff.1 info_byte
 simp only [Prod.mk.injEq] at hzz
 obtain ⟨hz0,hz1,hz2⟩:=hzz
 have hbl:(Lib.byteCells l).length=l.length:=by simp [Lib.byteCells]
 have HC:=Lib.hid (copyCheck_calls B b (Lib.byteCells l) w h)
 clear h
 go_enter Tryz.func38,Tryz.ntmps38
 go_wp2_with fail
 refine HC.out.mono ?_
 rintro e w1 ⟨rfl,⟨hB,v,hbk,hown,hne⟩,hb1⟩
 rw [hbl] at hown
 have c1:w1.cell? ⟨b,1,none⟩=some v:=by simp [World.cell?,hbk]
 have HBK:=Lib.hid hbk
 have HB1:=Lib.hid hb1
 have hlt:=blk_lt hbk
 have hs1:=hb1.size
 have HOW:=Lib.hid hown
 have HNE:=Lib.hid hne
 obtain ⟨ao,cp,rfl⟩:=own_slice hown
 clear hbk hb1 hown hne HC hbl
 go_wp2_with (at_builtin;(refine Lib.wpList_append_own_string _ rfl (.tmp 12) (.tmp 13) 64 9 rfl B 5 i0 Tryz.underlying64 Tryz.underlying9 hi hz0 hz1 hz2 _ _ _ rfl HOW.out s rfl (by unfold maxLen;omega) (by omega) (by omega) ?_);intro v2 w2 ho2 hg2 _;have hbk2:=(hg2.block b hlt (fun e=>HNE.out e.symm)).trans HBK.out;have hne2:=own_ne ho2 hbk2 (by decide);have HX:Hid (Built B b (l++s.data.toList) (w2.setCell ⟨b,1,none⟩ v2)):=Lib.hid (.inr ⟨hB,v2,by simpa using blk_put hbk2 1 v2 rfl,by rw [← cells_append,List.length_append,Lib.strCells_length,Lib.byteCells_length];exact own_setCell ho2 hne2 _,fun e=>hne2 e.symm⟩);have HY:Hid (Below B w (w2.setCell ⟨b,1,none⟩ v2)):=Lib.hid ((HB1.out.grown hg2 (by omega) (fun j hj=>own_base HOW.out j hj)).setCell (p:=⟨b,1,none⟩) hB _);have c2:=World.grownBy.cell hg2 c1 (fun e=>HNE.out e.symm);have f2:w2.frozen? ⟨b,1,none⟩=false:=(by simp [World.frozen?,hbk2]);obtain ⟨a2,cp2,rfl⟩:=own_slice ho2;clear ho2 hg2 hbk2 hne2)
 go_ret2
 exact ⟨rfl,HX.out,HY.out⟩
set_option maxHeartbeats 4000000 in
set_option maxRecDepth 100000 in
theorem writeByte_calls (B b:Nat) (l:List UInt8) (x:UInt8) (w:World) (h:Built B b l w) (hlen:l.length≤70368744177664) (hBw:B≤w.heap.size) :
  Calls Tryz.prog 42 #[.pointer (some ⟨b,0,none⟩),.int .u8 x.toNat] w fun e w'=>e=.returned .nilIface∧Built B b (l++[x]) w'∧Below B w w':=by
 have hbl:(Lib.byteCells l).length=l.length:=by simp [Lib.byteCells]
 have HC:=Lib.hid (copyCheck_calls B b (Lib.byteCells l) w h)
 clear h
 go_enter Tryz.func42,Tryz.ntmps42
 go_wp2_with fail
 refine HC.out.mono ?_
 rintro e w1 ⟨rfl,⟨hB,v,hbk,hown,hne⟩,hb1⟩
 have c1:w1.cell? ⟨b,1,none⟩=some v:=by simp [World.cell?,hbk]
 have HBK:=Lib.hid hbk
 have HB1:=Lib.hid hb1
 have hlt:=blk_lt hbk
 have hs1:=hb1.size
 have HOW:=Lib.hid hown
 have HNE:=Lib.hid hne
 obtain ⟨ao,cp,hv⟩:=own_slice hown
 rw [hbl] at hv
 subst hv
 have HBL:=Lib.hid hbl
 clear hbk hb1 hown hne HC hbl
 go_wp2_with (at_builtin;refine print_append (w0:=w) B rfl (.tmp 11) (.tmp 13) 64 5 (.int .u8 0) 1 rfl Tryz.underlying64 info_byte rfl (by decide) _ (Lib.byteCells l) (.int .u8 x.toNat) rfl rfl rfl HOW.out HB1.out (by omega) (by rw [HBL.out];omega) ?_;intro v2 w2 ho2 hb2 hg2 _;have hbk2:=(hg2.block b hlt (fun e=>HNE.out e.symm)).trans HBK.out;have hne2:=own_ne ho2 hbk2 (by decide);have HX:Hid (Built B b (l++[x]) (w2.setCell ⟨b,1,none⟩ v2)):=Lib.hid (.inr ⟨hB,v2,by simpa using blk_put hbk2 1 v2 rfl,by rw [Lib.byteCells_append];exact own_setCell ho2 hne2 _,fun e=>hne2 e.symm⟩);have HY:Hid (Below B w (w2.setCell ⟨b,1,none⟩ v2)):=Lib.hid (hb2.setCell (p:=⟨b,1,none⟩) hB _);have c2:=World.grownBy.cell hg2 c1 (fun e=>HNE.out e.symm);have f2:w2.frozen? ⟨b,1,none⟩=false:=(by simp [World.frozen?,hbk2]);obtain ⟨a2,cp2,rfl⟩:=own_slice ho2;have hlq:(Lib.byteCells l++[Value.int .u8 x.toNat]).length=l.length+1:=(by rw [List.length_append,HBL.out];rfl);rw [hlq] at HX HY ⊢;clear ho2 hg2 hbk2 hne2 hb2 hlq)
 go_ret
 exact ⟨rfl,HX.out,HY.out⟩
theorem built_string (B b:Nat) (l:List UInt8) (w:World) (h:Built B b l w) (hBw:B≤w.heap.size) :
  Calls Tryz.prog 43 #[.pointer (some ⟨b,0,none⟩)] w fun e w'=>e=.returned (.string ⟨l.toArray⟩)∧Below B w w':=Tryz.Builder_String_any B b l w h hBw
end Go.Proofs.YtdnhjnlhmfajnaaGreatDoor.G
end
section
namespace Go.Proofs.YtdnhjnlhmfajnaaGreatDoor.G
open Go.RowKit Go.Lib Go.Proofs.YtdnhjnlhmfajnaaGreatDoorW.PrintWords Go.Proofs.YtdnhjnlhmfajnaaGreatDoorW.PrintLast
set_option linter.unusedVariables false
def quoteB (told:UInt8→List UInt8) (b:UInt8):List UInt8:=if b=34 then [92,34] else told b
def quoteL (told:UInt8→List UInt8) (l:List UInt8):List UInt8:=(l.map (quoteB told)).flatten
theorem quote_take (told:UInt8→List UInt8) (s:ByteArray) (k:Nat) (h:k<s.size):quoteL told (s.data.toList.take (k+1))=quoteL told (s.data.toList.take k)++quoteB told s[k]:=by
 have hk:k<s.data.toList.length:=by rw [Array.length_toList];exact h
 unfold quoteL
 rw [List.take_succ_eq_append_getElem hk,List.map_append,List.flatten_append]
 simp only [List.map_cons,List.map_nil,List.flatten_cons,List.flatten_nil,List.append_nil]
 rfl
theorem quote_len (told:UInt8→List UInt8) (hn:∀ b,(told b).length≤4) (l:List UInt8):(quoteL told l).length≤4 * l.length:=by
 induction l with
 | nil=>simp [quoteL]
 | cons x l ih =>
  have h1:(quoteB told x).length≤4:=by
   unfold quoteB
   split
   ·simp
   ·exact hn x
  simp only [quoteL,List.map_cons,List.flatten_cons,List.length_append,List.length_cons] at ih ⊢
  omega
theorem built_below {B b:Nat} {l:List UInt8} {w w1:World} (h:Built B b l w) (hb:Below w.heap.size w w1):Built B b l w1:=by
 rcases h with ⟨hB,v,hk,ho,hne⟩ | ⟨hB,v,hk,ho,hne⟩
 ·exact .inl ⟨hB,v,(hb.block b (blk_lt hk)).trans hk,pw_own_below ho hb,hne⟩
 ·exact .inr ⟨hB,v,(hb.block b (blk_lt hk)).trans hk,pw_own_below ho hb,hne⟩
set_option maxHeartbeats 8000000 in
set_option maxRecDepth 100000 in
theorem quote_calls (told:UInt8→List UInt8) (hn:∀ b,(told b).length≤4) (s:ByteArray) (w:World) (hs:s.size≤1099511627776)
  (hT:Hid (∀ (x:UInt8) W,Below w.heap.size w W→Calls Tryz.prog 81 #[.int .u8 x.toNat] W fun e w'=>e=.returned (.string ⟨(told x).toArray⟩)∧Below W.heap.size W w')) :
  Calls Tryz.prog 40 #[.string s] w fun e w'=>e=.returned (.string ⟨(34 :: quoteL told s.data.toList++[34]).toArray⟩)∧Below w.heap.size w w':=by
 have h0:Built w.heap.size w.heap.size [] (w.alloc (.cells #[.pointer none,.slice none 0 0] 66)):=.inl ⟨Nat.le_refl _,.slice none 0 0,blk_new w _,own_nil _ _ _ _,by simp [Value.ownBlock]⟩
 have H0:=Lib.hid (writeByte_calls _ _ [] 34 _ h0 (by simp) (by simp))
 have hba:=Lib.hid ((Below.refl w.heap.size w).alloc (Nat.le_refl _) (.cells #[.pointer none,.slice none 0 0] 66))
 clear h0
 go_enter Tryz.func40,Tryz.ntmps40
 go_wp2_with fail
 refine H0.out.mono ?_
 rintro e w1 ⟨rfl,hB1,hb1⟩
 have HB1:=Lib.hid hB1
 have hb1':=hba.out.trans hb1
 clear hB1 hb1 H0 hba
 go_wp2_with fail
 go_loopw [8] (fun i wr=>∃ k:Nat,k≤s.size∧i=.int .i64 k∧Below w.heap.size w wr∧Hid (Built w.heap.size w.heap.size (34 :: quoteL told (s.data.toList.take k)) wr)) (fun i _=>s.size - (RowKit.intOf i).toNat)
 case atStart=>exact ⟨0,by omega,rfl,hb1',HB1⟩
 case round =>
  clear HB1 hb1'
  obtain ⟨k,hk,rfl,hb,HB⟩:=hrel
  have hbs:=hb.size
  have hql:=quote_len told hn (s.data.toList.take k)
  rw [List.length_take] at hql
  by_cases hlt:k<s.size
  ·have hqt:=quote_take told s k hlt
   obtain ⟨x,hx⟩:∃ x,s[k]'hlt=x:=⟨_,rfl⟩
   rw [hx] at hqt
   have HQT:=Lib.hid hqt
   have hlen:(34 :: quoteL told (s.data.toList.take k)).length≤8796093022208:=by simp only [List.length_cons];omega
   clear hqt hql
   generalize quoteL told (s.data.toList.take k)=pre at *
   have g1:(k:Int)<(s.size:Int):=by omega
   by_cases h34:x=34
   ·subst h34
    have HQ2:quoteB told 34=[92,34]:=by simp [quoteB]
    rw [HQ2] at HQT
    clear HQ2
    have W1:=Lib.hid (writeByte_calls _ _ (34 :: pre) 92 wr HB.out (by omega) hbs)
    go_wp2_with fail
    refine W1.out.mono ?_
    rintro e w2 ⟨rfl,hB2,hb2⟩
    have hb2':=hb.trans hb2
    have W2:=Lib.hid (writeByte_calls _ _ (34 :: pre++[92]) 34 w2 hB2 (by simp only [List.length_append,List.length_cons,List.length_nil] at hlen ⊢;omega) hb2'.size)
    clear hB2 W1 hb2
    go_wp2_with fail
    refine W2.out.mono ?_
    rintro e w3 ⟨rfl,hB3,hb3⟩
    have HB3:Hid (Built w.heap.size w.heap.size (34 :: quoteL told (s.data.toList.take (k+1))) w3):=Lib.hid (by rw [HQT.out];simpa using hB3)
    have hb3':=hb2'.trans hb3
    clear hB3 W2 hb3
    go_wp2_with fail
    go_roundw
    case rel=>exact ⟨k+1,by omega,by go_num,hb3',HB3⟩
    case measure=>simp [RowKit.intOf];omega
   ·have hne:((x.toNat:Int) == 34)=false:=by
     rw [beq_eq_false_iff_ne];intro h;exact h34 (UInt8.toNat_inj.1 (by exact_mod_cast h))
    have HQ2:quoteB told x=told x:=by simp [quoteB,h34]
    rw [HQ2] at HQT
    clear HQ2 h34
    have HTX:=Lib.hid (hT.out x wr hb)
    have hnx:=hn x
    go_wp2_with fail
    refine HTX.out.mono ?_
    rintro e w2 ⟨rfl,hb2⟩
    have hb2':=bstep hb hbs hb2
    have hB2:Built w.heap.size w.heap.size (34 :: pre) w2:=built_below HB.out hb2
    have W2:=Lib.hid (writeString_calls _ _ (34 :: pre) ⟨(told x).toArray⟩ w2 hB2 (by simp [ByteArray.size];simp only [List.length_cons] at hlen;omega) hb2'.size)
    clear hB2 HTX hb2 hnx
    go_wp2_with fail
    refine W2.out.mono ?_
    rintro e w3 ⟨rfl,hB3,hb3⟩
    have HB3:Hid (Built w.heap.size w.heap.size (34 :: quoteL told (s.data.toList.take (k+1))) w3):=Lib.hid (by rw [HQT.out];simpa using hB3)
    have hb3':=hb2'.trans hb3
    clear hB3 W2 hb3
    go_wp2_with fail
    go_roundw
    case rel=>exact ⟨k+1,by omega,by go_num,hb3',HB3⟩
    case measure=>simp [RowKit.intOf];omega
  ·obtain rfl:k=s.size:=by omega
   have hq4:(quoteL told s.data.toList).length≤4 * s.size:=Nat.le_trans (quote_len told hn _) (Nat.mul_le_mul_left 4 (by rw [Array.length_toList];exact Nat.le_refl _))
   rw [List.take_of_length_le (by rw [Array.length_toList];exact Nat.le_refl _)] at HB
   have W1:=Lib.hid (writeByte_calls _ _ (34 :: quoteL told s.data.toList) 34 wr HB.out (Nat.le_trans (Nat.succ_le_succ hq4) (by omega)) hbs)
   clear hlt hql hq4
   go_wp2_with fail
   refine W1.out.mono ?_
   rintro e w2 ⟨rfl,hB2,hb2⟩
   have hb2':=hb.trans hb2
   have W2:=Lib.hid (built_string _ _ _ w2 hB2 hb2'.size)
   clear hB2 W1 hb2
   go_wp2_with fail
   refine W2.out.mono ?_
   rintro e w3 ⟨rfl,hb3⟩
   have hb3':=hb2'.trans hb3
   go_wp2_with fail
   go_ret
   exact ⟨rfl,hb3'⟩
end Go.Proofs.YtdnhjnlhmfajnaaGreatDoor.G
end
