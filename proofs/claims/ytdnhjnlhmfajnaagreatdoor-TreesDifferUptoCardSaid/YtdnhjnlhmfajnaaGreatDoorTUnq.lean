import Derived.Test.YtdnhjnlhmfajnaaGreatDoorTOne
import Derived.Lib.BufferRead
set_option linter.unusedVariables false
set_option linter.unusedSimpArgs false
namespace Go.Proofs.YtdnhjnlhmfajnaaGreatDoor.G
open Go.RowKit Go.Lib Go.Proofs.YtdnhjnlhmfajnaaGreatDoorW.PrintWords Go.Proofs.YtdnhjnlhmfajnaaGreatDoorW.PrintLast
set_option linter.unusedVariables false
def unqW (l:List UInt8) (i:Nat) (out:List UInt8):Option (List UInt8×Nat):=match l with
 | []=>none
 | c :: r=>if c=34 then some (out,i+1) else match oneL (c :: r) with
  | none=>none
  | some (b,m)=>unqW (r.drop (m - 1)) (i+m) (out++[b])
termination_by l.length
decreasing_by simp only [List.length_drop,List.length_cons];omega
def unq (s:ByteArray):Option (List UInt8×Nat):=match s.data.toList with
 | []=>none
 | c :: r=>if c=34 then unqW r 1 [] else none
theorem one_pos {l:List UInt8} {b:UInt8} {m:Nat} (h:oneL l=some (b,m)):1≤m∧m≤4:=by
 unfold oneL at h
 split at h
 ·cases h
 ·rename_i c r
  by_cases hc:c=92
  ·rw [if_pos hc] at h
   cases r with
   | nil=>cases h
   | cons d r' =>
    simp only at h
    by_cases hd:d=34
    ·rw [if_pos hd] at h
     simp only [Option.some.injEq,Prod.mk.injEq] at h
     omega
    ·rw [if_neg hd] at h
     cases he:escL d with
     | some b' =>
      rw [he] at h
      simp only [Option.some.injEq,Prod.mk.injEq] at h
      omega
     | none =>
      rw [he] at h
      obtain ⟨n,hn,h2⟩:=Option.map_eq_some_iff.1 h
      simp only [Prod.mk.injEq] at h2
      omega
  ·rw [if_neg hc] at h
   split at h
   ·simp only [Option.some.injEq,Prod.mk.injEq] at h
    omega
   ·cases h
theorem unqW_bound:∀ (N:Nat) (l:List UInt8) (i:Nat) (out o:List UInt8) (n:Nat),l.length≤N→unqW l i out=some (o,n)→n≤i+l.length∧i<n∧o.length≤out.length+l.length
 | 0,l,i,out,o,n,hN,h=>by
  obtain rfl:l=[]:=List.eq_nil_of_length_eq_zero (by omega)
  rw [unqW] at h
  cases h
 | N+1,[],i,out,o,n,hN,h=>by rw [unqW] at h;cases h
 | N+1,c :: r,i,out,o,n,hN,h=>by
  rw [unqW] at h
  by_cases hc:c=34
  ·rw [if_pos hc] at h
   simp only [Option.some.injEq,Prod.mk.injEq] at h
   obtain ⟨rfl,rfl⟩:=h
   simp only [List.length_cons]
   omega
  ·rw [if_neg hc] at h
   cases ho:oneL (c :: r) with
   | none=>rw [ho] at h;cases h
   | some bm =>
    obtain ⟨b,m⟩:=bm
    rw [ho] at h
    simp only at h
    have hm:=one_pos ho
    by_cases hml:m - 1<r.length
    ·have h1:=unqW_bound N _ _ _ _ _ (by simp only [List.length_drop,List.length_cons] at hN ⊢;omega) h
     simp only [List.length_drop,List.length_append,List.length_cons,List.length_nil] at h1 ⊢
     omega
    ·rw [List.drop_of_length_le (by omega),unqW] at h
     cases h
theorem unq_bound {s:ByteArray} {o:List UInt8} {n:Nat} (h:unq s=some (o,n)):n≤s.size∧1<n∧o.length≤s.size:=by
 unfold unq at h
 rw [Lib.size_eq]
 split at h
 ·cases h
 ·rename_i c r hs
  rw [hs]
  split at h
  ·have h1:=unqW_bound r.length r 1 [] o n (Nat.le_refl _) h
   simp only [List.length_nil,List.length_cons] at h1 ⊢
   omega
  ·cases h
theorem results_tmp4 {P:Program} {fn:Func} {t u v x:Tmp} (h:fn.results=#[.tmp t,.tmp u,.tmp v,.tmp x]) (tmps:Array Value) (w:World) :
  (results fn tmps).run P w=.ok (.tuple #[tmps.getD t undef,tmps.getD u undef,tmps.getD v undef,tmps.getD x undef]) w:=by
 simp [results,h]
theorem conv_row {B:Nat} {v:Value} {l:List UInt8} (w:World) (h:w.ownsRow B 5 1 v l.length (Lib.byteCells l)):(convert 64 9 v).run Tryz.prog w=.ok (.string ⟨l.toArray⟩) w:=by
 rcases h.2 with ⟨rfl,h0⟩ | ⟨g,cap,cur,rfl,_⟩
 ·obtain rfl:l=[]:=List.eq_nil_of_length_eq_zero (by simpa using h0)
  exact Lib.run_convert_nil_bytes w _ _ 5 0 Tryz.underlying64 Tryz.underlying5 Tryz.underlying9
 ·refine run_convert_bytes_back w _ _ 5 _ cap l Tryz.underlying64 Tryz.underlying5 Tryz.underlying9 (fun j hj => ?_)
  exact h.cells (g:=g) rfl j _ (by simp [Lib.byteCells,hj])
def UnqA (s:ByteArray) (e:Ending):Prop :=
 (∃ l n,unq s=some (l,n)∧e=.returned (.tuple #[.string ⟨l.toArray⟩,.int .i64 (n:Nat),.int .i64 0,.int .i64 0]))∨(unq s=none∧∃ m:Nat,e=.returned (.tuple #[.string ⟨#[]⟩,.int .i64 0,.int .i64 10,.int .i64 m]))
set_option maxHeartbeats 8000000 in
set_option maxRecDepth 100000 in
theorem unquote_calls (s:ByteArray) (w:World) (hs:s.size≤1099511627776) (hG:Tab w) :
  Calls Tryz.prog 89 #[.string s] w fun e w'=>UnqA s e∧Below w.heap.size w w':=by
 have HG:=Lib.hid hG
 have HON:=Lib.hid (fun i W h1 h2=>one_calls s i W h1 hs h2)
 clear hG
 go_enter Tryz.func89,Tryz.ntmps89
 by_cases h0:s.size=0
 ·have he:s.toList.isEmpty=true:=by rw [Lib.toList_data,List.eq_nil_of_length_eq_zero (l:=s.data.toList) (by rw [← Lib.size_eq];exact h0)];rfl
  have HU:Hid (unq s=none):=Lib.hid (by rw [unq,List.eq_nil_of_length_eq_zero (l:=s.data.toList) (by rw [← Lib.size_eq];exact h0)])
  clear h0
  go_wp2_with fail
  refine bodyPost_ret (results_tmp4 rfl _ _) rfl ?_
  exact ⟨.inr ⟨HU.out,0,rfl⟩,Below.refl _ _⟩
 ·have hpos:0<s.size:=by omega
  have he:s.toList.isEmpty=false:=by
   rw [Lib.toList_data]
   cases h:s.data.toList with
   | nil=>rw [Lib.size_eq,h] at hpos;simp at hpos
   | cons _ _=>rfl
  have hdc:=drop_cons hpos
  rw [List.drop_zero] at hdc
  obtain ⟨c,hc⟩:∃ c,s[0]=c:=⟨_,rfl⟩
  rw [hc] at hdc
  have hp0:(0:Int)<(s.size:Int):=by omega
  by_cases h34:c=34
  ·subst h34
   have HU:Hid (unq s=unqW (s.data.toList.drop 1) 1 []):=Lib.hid (by rw [unq,hdc];rfl)
   clear hdc h0
   go_wp2_with fail
   go_loopw [6,7] (fun vo vi wr=>∃ (v:Value) (i:Nat) (out:List UInt8),v=vo∧vi=.int .i64 i∧i≤s.size+4∧out.length≤i∧Hid (wr.ownsRow w.heap.size 5 1 v out.length (Lib.byteCells out))∧Below w.heap.size w wr∧Hid (unq s=unqW (s.data.toList.drop i) i out)) (fun _ vi _=>s.size+5 - (RowKit.intOf vi).toNat)
   case atStart=>exact ⟨_,1,[],rfl,rfl,by omega,by simp,Lib.hid (own_nil _ _ _ _),Below.refl _ _,HU⟩
   case round =>
    obtain ⟨v,i,out,rfl,rfl,hi4,hol,HOW,hb,HUQ⟩:=hrel
    have hsz:=hb.size
    by_cases hlt:i<s.size
    ·have hdc:=drop_cons hlt
     obtain ⟨c,hcc⟩:∃ c,s[i]=c:=⟨_,rfl⟩
     rw [hcc] at hdc
     rw [hdc,unqW] at HUQ
     have g1:(i:Int)<(s.size:Int):=by omega
     by_cases c34:c=34
     ·subst c34
      rw [if_pos rfl] at HUQ
      have HCV:=Lib.hid (conv_row wr HOW.out)
      clear hdc
      go_wp2_with fail
      rw [HCV.out]
      simp only [Result.andThen]
      rw [Oper.upon_value]
      go_wp2_with fail
      refine bodyPost_ret (results_tmp4 rfl _ _) rfl ?_
      exact ⟨.inl ⟨out,i+1,HUQ.out,by go_num⟩,hb⟩
     ·rw [if_neg c34,← hdc] at HUQ
      have kc:((c.toNat:Int) == 34)=false:=by rw [beq_eq_false_iff_ne];intro h;exact c34 (UInt8.toNat_inj.1 (by exact_mod_cast h))
      have HX:=Lib.hid (HON.out i wr hlt (Tab_b HG.out hb))
      have HDC:=Lib.hid hdc
      clear hdc c34
      go_wp2_with fail
      refine HX.out.mono ?_
      rintro e w1 ⟨⟨b,m,ho,rfl⟩ | ⟨ho,a,m,rfl⟩,hb1⟩
      ·rw [ho] at HUQ
       simp only at HUQ
       have hm:=one_pos ho
       have hb':=bstep hb hsz hb1
       have hs1:=hb1.size
       have hbl:(Lib.byteCells out).length=out.length:=by simp [Lib.byteCells]
       have HOW1:Hid (w1.ownsRow w.heap.size 5 1 v (Lib.byteCells out).length (Lib.byteCells out)):=Lib.hid (by rw [hbl];exact pw_own_below HOW.out hb1)
       obtain ⟨ao,cp,hv⟩:=own_slice HOW.out
       have HBL:=Lib.hid hbl
       have HD2:=Lib.hid (show s.data.toList.drop (i+m)=(s.data.toList.drop (i+1)).drop (m - 1) by rw [List.drop_drop];congr 1;omega)
       subst hv
       have HUN:Hid (unq s=unqW (s.data.toList.drop (i+m)) (i+m) (out++[b])):=Lib.hid (by rw [HUQ.out,HD2.out])
       clear hbl HOW ho HUQ HD2
       go_wp2_with (at_builtin;refine print_append (w0:=w) w.heap.size rfl (.tmp 40) (.tmp 42) 64 5 (.int .u8 0) 1 rfl Tryz.underlying64 info_byte rfl (by decide) _ (Lib.byteCells out) (.int .u8 b.toNat) rfl rfl rfl HOW1.out hb' (by omega) (by rw [HBL.out];omega) ?_;intro v2 w2 ho2 hb2 hg2 hat2;have HO2:Hid (w2.ownsRow w.heap.size 5 1 v2 (out++[b]).length (Lib.byteCells (out++[b]))):=Lib.hid (by rw [Lib.byteCells_append,show (out++[b]).length=(Lib.byteCells out++[Value.int .u8 b.toNat]).length by rw [List.length_append,List.length_append,HBL.out];rfl];exact ho2);clear ho2 hg2 hat2)
       go_roundw
       case rel=>exact ⟨_,i+m,out++[b],rfl,by go_num,by omega,by simp;omega,HO2,hb2,HUN⟩
       case measure=>simp [RowKit.intOf];omega
      ·rw [ho] at HUQ
       simp only at HUQ
       have hb':=bstep hb hsz hb1
       clear ho
       go_wp2_with fail
       refine bodyPost_ret (results_tmp4 rfl _ _) rfl ?_
       exact ⟨.inr ⟨HUQ.out,m,rfl⟩,hb'⟩
    ·rw [List.drop_of_length_le (by rw [Array.length_toList];show s.size≤i;omega),unqW] at HUQ
     have g1:¬ (i:Int)<(s.size:Int):=by omega
     go_wp2_with fail
     refine bodyPost_ret (results_tmp4 rfl _ _) rfl ?_
     exact ⟨.inr ⟨HUQ.out,s.size,rfl⟩,hb⟩
  ·have k1:((c.toNat:Int) != 34)=true:=by rw [bne_iff_ne];intro h;exact h34 (UInt8.toNat_inj.1 (by exact_mod_cast h))
   have HU:Hid (unq s=none):=Lib.hid (by rw [unq,hdc];exact if_neg h34)
   clear hdc h0 h34
   go_wp2_with fail
   refine bodyPost_ret (results_tmp4 rfl _ _) rfl ?_
   exact ⟨.inr ⟨HU.out,0,rfl⟩,Below.refl _ _⟩
end Go.Proofs.YtdnhjnlhmfajnaaGreatDoor.G
