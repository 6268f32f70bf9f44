import Derived.Test.YtdnhjnlhmfajnaaGreatDoorRangeR
import Derived.Test.YtdnhjnlhmfajnaaGreatDoorTCopy
import Derived.Test.YtdnhjnlhmfajnaaGreatDoorTBelow
import Derived.RangeFuncBox
set_option linter.unusedVariables false
set_option linter.unusedSimpArgs false
namespace Go.Proofs.YtdnhjnlhmfajnaaGreatDoor.G
open Go.RowKit Go.Shelf Go.Lib Go.Proofs.YtdnhjnlhmfajnaaGreatDoorW.PrintWords Go.Proofs.YtdnhjnlhmfajnaaGreatDoorW.PrintLast
attribute [local go_sem] Oper.semAt_some
set_option linter.unusedVariables false
set_option linter.unusedSimpArgs false
mutual
def preF (p:List ByteArray):File→List (List ByteArray×File)
 | ⟨_,_,_,l⟩=>preL p l
def preL (p:List ByteArray):List File→List (List ByteArray×File)
 | []=>[]
 | x :: l=>(p++[x.name],x) :: (preF (p++[x.name]) x++preL p l)
end
theorem preF_eq (p:List ByteArray) (f:File):preF p f=preL p f.files:=by cases f;rw [preF]
theorem preL_append (p:List ByteArray) (l m:List File):preL p (l++m)=preL p l++preL p m:=by
 induction l with
 | nil=>simp [preL]
 | cons x l ih=>simp only [List.cons_append,preL,ih,List.append_assoc]
theorem preL_take {p:List ByteArray} {l:List File} {k:Nat} (h:k<l.length):preL p (l.take (k+1))=preL p (l.take k)++((p++[l[k].name],l[k]) :: preF (p++[l[k].name]) l[k]):=by
 rw [List.take_succ_eq_append_getElem h,preL_append]
 simp [preL]
def EncF (w0:World) (B:Nat) (x:List ByteArray×File) (args:Array Value) (W:World):Prop :=
 ∃ v A c,args=#[v,fileV x.2 A c]∧Kd.R Kd.string 9 W B (fun _=>True) v x.1∧FileK.C w0 A x.2.files.length x.2.files∧x.2.files.length≤c
def HdF (args:Array Value) (k:Nat):Prop:=∃ v,args[0]? = some v∧v.ownBlock=some k
theorem R_only {d:Kd ByteArray} {e base:Nat} {ok:Nat→Prop} {w w1:World} {v:Value} {xs:List ByteArray} {F:Nat→Prop} (h:d.R e w base ok v xs) (ho:Only F w w1) (hn:∀ k,ok k→¬ F k):d.R e w1 base ok v xs :=
 Kd.R_step h fun k hk hlt=>ho.block k hlt (hn k hk)
theorem Boxed_only {W W':World} {k:Nat} {t:TypeId} {v:Value} {F:Nat→Prop} (h:Boxed W k t v) (ho:Only F W W') (hk:¬ F k):Boxed W' k t v:=(ho.block k h.lt hk).trans h
theorem Boxed_below {W W':World} {B k:Nat} {t:TypeId} {v:Value} (h:Boxed W k t v) (hb:Below B W W') (hk:k<B):Boxed W' k t v:=(hb.block k hk).trans h
def Holds (l y wk:Nat) (W:World):Prop:=Boxed W y 119 (.func (.yield l) #[] #[])∧Boxed W wk 119 (.func (.func 78) #[] #[.pointer (some ⟨y,0,none⟩),.pointer (some ⟨wk,0,none⟩)])
set_option maxHeartbeats 8000000 in
set_option maxRecDepth 100000 in
theorem each_in (l y wk:Nat) (w0:World) (B:Nat) (hBy:B≤y) (hBw:B≤wk) (hB0:w0.heap.size≤B) (J Jx:List (List ByteArray×File)→(Nat→Prop)→(Nat→Prop)→World→Prop) (full:List (List ByteArray×File)) (hJ:OwnF B J) (hJx:OwnF B Jx)
  (HY:∀ pre x args F1 G1 W1,J pre F1 G1 W1→B≤W1.heap.size→(pre++[x]) <+: full→EncF w0 B x args W1→(∀ k,HdF args k→¬ F1 k)→∀ m,YieldAt Fence.wide m Tryz.prog l args W1 fun e W'=>∃ F' G',Only F1 W1 W'∧(∀ k,F' k→F1 k∨(W1.heap.size≤k∧k<W'.heap.size))∧(∀ k,G' k→G1 k∨HdF args k∨(W1.heap.size≤k∧k<W'.heap.size)) ∧
   ((e=.returned (.bool true)∧J (pre++[x]) F' G' W')∨(e=.returned (.bool false)∧Jx (pre++[x]) F' G' W'))) :
  ∀ (nn n:Nat) (f:File) (A:Option Addr) (c:Nat) (v:Value) (p:List ByteArray) (pre:List (List ByteArray×File)) (F G Own:Nat→Prop) (W:World),f.bulk≤nn→p.length+f.bulk≤1099511627776 →
   FileK.C w0 A f.files.length f.files→f.files.length≤c→Below w0.heap.size w0 W→Kd.R Kd.string 9 W B Own v p→Holds l y wk W →
   (∀ k,k<w0.heap.size→Own k)→Own y→Own wk→(∀ k,Own k→¬ F k∧k<W.heap.size)→(∀ k,F k→k<W.heap.size)→B≤W.heap.size→J pre F G W→(pre++preF p f) <+: full →
   CallsIn Fence.wide n Tryz.prog 78 #[v,fileV f A c,.pointer (some ⟨y,0,none⟩),.pointer (some ⟨wk,0,none⟩)] W fun e W' =>
    ∃ F' G',Only F W W'∧(∀ k,F' k→F k∨(W.heap.size≤k∧k<W'.heap.size))∧((e=.returned (.bool true)∧J (pre++preF p f) F' G' W')∨(e=.returned (.bool false)∧∃ pre',pre' <+: full∧Jx pre' F' G' W')):=by
 intro nn
 induction nn with
 | zero=>intro n f A c v p pre F G Own W h;have:=bulk_eq f;omega
 | succ nn ih =>
 intro n f A c v p pre F G Own W hn hbk hr hc hb0 hv hh hO0 hOy hOw hOF hFW hBW hj hfull
 have HI:=Lib.hid (fun n (x:File) A c v p pre F G Own W h1 h2=>ih n x A c v p pre F G Own W h1 h2)
 clear ih
 have HY':=Lib.hid HY
 have HJ:=Lib.hid hJ
 have HJX:=Lib.hid hJx
 clear HY hJ hJx
 have hlen:=bulkL_len f.files
 have hbe:=bulk_eq f
 have HN':∀ x∈f.files,x.bulk≤nn∧(p.length+1)+x.bulk≤1099511627776:=fun x hx=>by have:=bulk_child hx;omega
 have hal':f.files.length≤1099511627776:=by omega
 have hpl:p.length≤1099511627776:=by omega
 rw [preF_eq] at hfull ⊢
 obtain ⟨an,ak,ad,af⟩:=f
 simp only at hfull ⊢
 change af.length≤c at hc
 change FileK.C w0 A af.length af at hr
 have HR:=Lib.hid hr
 have hal:af.length≤1099511627776:=hal'
 have HN:Hid (∀ x∈af,x.bulk≤nn∧(p.length+1)+x.bulk≤1099511627776):=Lib.hid HN'
 have HOF:=Lib.hid hOF
 have HFW:=Lib.hid hFW
 have HO0:=Lib.hid hO0
 have HV:=Lib.hid hv
 have HH:=Lib.hid hh
 obtain ⟨Ap,cp,rfl,hcp,hCp⟩:=Kd.R_reads hv
 have HJ0:Hid (J pre F G W):=Lib.hid hj
 have HF:Hid (pre++preL p af <+: full):=Lib.hid hfull
 clear hbe hlen hn hbk hal' HN' hr hOF hFW hO0 hv hh hCp hj hfull
 refine callsIn_of_wp Tryz.func78 rfl trivial ?_ rfl
 simp only [Tryz.ntmps78,List.size_toArray,List.length_cons,List.length_nil,Nat.reduceAdd,Nat.reduceSub,Array.replicate_succ,Array.replicate_zero,List.push_toArray,List.append_toArray,List.nil_append,List.cons_append]
 unfold fileV
 gi_wp2
 gi_loopw [13] (fun i wr=>∃ (k:Nat) (F' G':Nat→Prop),k≤af.length∧i=.int .i64 k∧Hid (Only F W wr)∧Hid (∀ j,F' j→F j∨(W.heap.size≤j∧j<wr.heap.size))∧Hid (J (pre++preL p (af.take k)) F' G' wr)) (fun i _=>af.length - (RowKit.intOf i).toNat)
 case atStart=>exact ⟨0,F,G,by omega,rfl,Lib.hid ((Only.alloc F W _)),Lib.hid (fun _ h=>.inl h),Lib.hid (by simpa [preL] using HJ.out _ _ _ _ _ HJ0.out (Only.alloc _ W _))⟩
 case round =>
  obtain ⟨k,F',G',hk,rfl,HO,HF',HJK⟩:=hrel
  have hWs:=HO.out.size
  have hbr:=HO.out.below (B:=w0.heap.size) (by omega) (fun j hj=>(HOF.out j (HO0.out j hj)).1)
  by_cases hlt:k<af.length
  ·obtain ⟨aad,A',c',rfl,p1,p2,p3,p4,hc',hC'⟩:=file_at HR.out k hlt
   have mv:∀ {p:Addr} {v:Value},w0.cell? p=some v→wr.cell? p=some v:=fun h=>((hb0.trans hbr).cell (World.block_lt_of_cell? w0 _ h)).trans h
   have p1':=mv p1
   have p2':=mv p2
   have p3':=mv p3
   have p4':=mv p4
   have hmem:=HN.out _ (List.getElem_mem hlt)
   have HTK:=Lib.hid (preL_take (p:=p) hlt)
   have HC':=Lib.hid hC'
   clear p1 p2 p3 p4 mv hC'
   generalize af[k]=x at *
   have g1:(k:Int)<(af.length:Int):=by omega
   have HVr:=Lib.hid (R_only HV.out HO.out fun j hj=>(HOF.out j hj).1)
   have HHr:Hid (Holds l y wk wr):=Lib.hid ⟨Boxed_only HH.out.1 HO.out (HOF.out _ hOy).1,Boxed_only HH.out.2 HO.out (HOF.out _ hOw).1⟩
   have hbx:=below_alloc (Below.refl wr.heap.size wr) (.cells (fc x A' c') 25)
   have hnb:=blk_new wr (.cells (fc x A' c') 25)
   have hsX:(wr.alloc (.cells (fc x A' c') 25)).heap.size=wr.heap.size+1:=by simp
   have HBC:=Lib.hid (below_calls Ap cp p x.name _ (Kd.R_reads' (Kd.R_below HVr.out hbx)).2.2 hcp (by omega))
   gi_wp2
   clear p1' p2' p3' p4'
   generalize wr.alloc (.cells (fc x A' c') 25)=W1 at *
   refine ⟨trivial,(fun h=>by cases h),?_⟩
   refine (callsIn_wide.2 HBC.out).mono ?_
   rintro e w1 ⟨v1,rfl,ho1,hb1⟩
   have hs1:=hb1.size
   have hnb1:=(hb1.block wr.heap.size (by omega)).trans hnb
   have y0:w1.cell? ⟨wr.heap.size,0,none⟩=some (.string x.name):=cell_of hnb1 rfl
   have y1:w1.cell? ⟨wr.heap.size,1,none⟩=some (.int .u8 x.kind):=cell_of hnb1 rfl
   have y2:w1.cell? ⟨wr.heap.size,2,none⟩=some (.string x.data):=cell_of hnb1 rfl
   have y3:w1.cell? ⟨wr.heap.size,3,none⟩=some (.slice A' x.files.length c'):=cell_of hnb1 rfl
   have hb1r:Below wr.heap.size wr w1:=hbx.trans (hb1.mono (by omega))
   have HHw:Hid (Holds l y wk w1):=Lib.hid ⟨Boxed_below HHr.out.1 hb1r HHr.out.1.lt,Boxed_below HHr.out.2 hb1r HHr.out.2.lt⟩
   have c2:=HHw.out.1.cell
   have HB1R:=Lib.hid hb1r
   have HO1:=Lib.hid (Kd.R_lower (base':=B) ho1 (by omega))
   have HOB:=Lib.hid (Kd.R_bound ho1)
   have hjw:=HJ.out _ _ _ _ _ HJK.out (Only.of_below hb1r _)
   have HFK:Hid (pre++preL p (af.take (k+1)) <+: full):=Lib.hid (by
    refine List.IsPrefix.trans ((List.prefix_append_right_inj _).2 ?_) HF.out
    conv=>rhs;rw [← List.take_append_drop (k+1) af,preL_append]
    exact List.prefix_append _ _)
   have hfx:(pre++preL p (af.take k))++[(p++[x.name],x)] <+: full:=by
    refine List.IsPrefix.trans ?_ HFK.out
    rw [HTK.out,List.append_assoc]
    exact (List.prefix_append_right_inj _).2 ((List.prefix_append_right_inj _).2 ⟨_,rfl⟩)
   obtain ⟨fn,tmps,assign,body,hy,hR⟩:=HY'.out _ (p++[x.name],x) #[v1,.agg (fc x A' c')] F' G' w1 hjw (by omega) hfx ⟨v1,A',c',rfl,HO1.out,HC'.out,hc'⟩
    (fun j hj hF=>by
     obtain ⟨u,hu,hu2⟩:=hj
     obtain rfl:v1=u:=by simpa using hu
     have:=(HOB.out.1 j hu2).2.1
     rcases HF'.out j hF with h | h
     ·have:=HFW.out j h
      omega
     ·omega) (n - 1)
   gi_wp2
   refine ⟨(fun h=>by cases h),hR.mono ?_⟩
   rintro e W2 ⟨F2,G2,ho2,hF2,hG2,(⟨rfl,hj2⟩ | ⟨rfl,hx2⟩)⟩
   ·have hs2:=ho2.size
    have hFr:∀ j,F' j→j<wr.heap.size:=fun j h=>by
     rcases HF'.out j h with h | h
     ·have:=HFW.out j h
      omega
     ·exact h.2
    have nF:∀ j,wr.heap.size≤j→¬ F' j:=fun j h1 h2=>by have:=hFr j h2;omega
    have hOF':∀ j,Own j→¬ F' j:=fun j h1 h2=>by
     rcases HF'.out j h2 with h | h
     ·exact (HOF.out j h1).1 h
     ·have:=(HOF.out j h1).2
      omega
    have HH2:Hid (Holds l y wk W2):=Lib.hid ⟨Boxed_only HHw.out.1 ho2 (hOF' _ hOy),Boxed_only HHw.out.2 ho2 (hOF' _ hOw)⟩
    have hnb2:=(ho2.block wr.heap.size (by omega) (nF _ (Nat.le_refl _))).trans hnb1
    clear y0 y1 y2 y3 c2 hy
    have y0:W2.cell? ⟨wr.heap.size,0,none⟩=some (.string x.name):=cell_of hnb2 rfl
    have y1:W2.cell? ⟨wr.heap.size,1,none⟩=some (.int .u8 x.kind):=cell_of hnb2 rfl
    have y2:W2.cell? ⟨wr.heap.size,2,none⟩=some (.string x.data):=cell_of hnb2 rfl
    have y3:W2.cell? ⟨wr.heap.size,3,none⟩=some (.slice A' x.files.length c'):=cell_of hnb2 rfl
    have c3:=HH2.out.2.cell
    have HO2:=Lib.hid ho2
    have HJ2:=Lib.hid hj2
    have HF2:=Lib.hid hF2
    clear ho2 hj2 hF2
    gi_wp2
    have hb2r:=HO2.out.below (B:=w0.heap.size) (by omega) (fun j hj=>hOF' j (HO0.out j hj))
    refine ⟨trivial,(fun h=>by cases h),?_⟩
    refine (HI.out (n - 1) x A' c' v1 (p++[x.name]) _ F2 G2 (fun j=>Own j∨(W1.heap.size≤j∧j<w1.heap.size)) W2 hmem.1 (by simp only [List.length_append,List.length_cons,List.length_nil];exact hmem.2) HC'.out hc'
     (((hb0.trans hbr).trans (HB1R.out.mono (by omega))).trans hb2r) (Kd.R_mono (R_only (Kd.R_lower (base':=B) HOB.out (by omega)) HO2.out fun j hj=>nF j (by omega)) fun j hj=>.inr ⟨hj.2.1,hj.2.2.1⟩) HH2.out (fun j hj=>.inl (HO0.out j hj)) (.inl hOy) (.inl hOw) ?oO ?oW (by omega) HJ2.out ?oP).mono ?_
    case oO =>
     rintro j (h | ⟨h1,h2⟩)
     ·refine ⟨fun hf => ?_,by have:=(HOF.out j h).2;omega⟩
      rcases HF2.out j hf with g | g
      ·exact hOF' j h g
      ·have:=(HOF.out j h).2
       omega
     ·refine ⟨fun hf => ?_,by omega⟩
      rcases HF2.out j hf with g | g
      ·have:=hFr j g
       omega
      ·omega
    case oW =>
     intro j hf
     rcases HF2.out j hf with g | g
     ·have:=hFr j g
      omega
     ·exact g.2
    case oP =>
     have:=HFK.out
     rw [HTK.out] at this
     simpa using this
    have hF1:∀ j,j<W.heap.size→F' j→F j:=fun j h1 h2=>by
     rcases HF'.out j h2 with h | h
     ·exact h
     ·omega
    have hF22:∀ j,j<W.heap.size→F2 j→F j:=fun j h1 h2=>by
     rcases HF2.out j h2 with h | h
     ·exact hF1 j h1 h
     ·omega
    rintro e W3 ⟨F3,G3,ho3,hF3,(⟨rfl,hj3⟩ | ⟨rfl,pre',hp',hx3⟩)⟩
    ·have hs3:=ho3.size
     have hFN:∀ j,F3 j→F j∨(W.heap.size≤j∧j<W3.heap.size):=fun j h=>by
      by_cases hj:j<W.heap.size
      ·rcases hF3 j h with h | h
       ·exact .inl (hF22 j hj h)
       ·omega
      ·rcases hF3 j h with h | h
       ·rcases HF2.out j h with h | h
        ·have:=hFr j h
         omega
        ·omega
       ·omega
     have hON:Only F W W3:=((HO.out.trans (Only.of_below HB1R.out F) (K:=F) (fun _ _ h=>h) (fun _ _ h=>h)).trans HO2.out (K:=F) (fun _ _ h=>h) hF1).trans ho3 (fun _ _ h=>h) hF22
     have HFN:Hid (∀ j,F3 j→F j∨(W.heap.size≤j∧j<W3.heap.size)):=Lib.hid hFN
     have HJN:Hid (J (pre++preL p (af.take (k+1))) F3 G3 W3):=Lib.hid (by rw [HTK.out];simpa using hj3)
     have HON:=Lib.hid hON
     clear hON hj3 ho3 hF3 hFN
     gi_wp2
     go_roundw
     case rel=>exact ⟨k+1,F3,G3,by omega,by go_num,HON,HFN,HJN⟩
     case measure=>simp [RowKit.intOf];omega
    ·have hs3:=ho3.size
     have hFN:∀ j,F3 j→F j∨(W.heap.size≤j∧j<W3.heap.size):=fun j h=>by
      by_cases hj:j<W.heap.size
      ·rcases hF3 j h with h | h
       ·exact .inl (hF22 j hj h)
       ·omega
      ·rcases hF3 j h with h | h
       ·rcases HF2.out j h with h | h
        ·have:=hFr j h
         omega
        ·omega
       ·omega
     have hON:Only F W W3:=((HO.out.trans (Only.of_below HB1R.out F) (K:=F) (fun _ _ h=>h) (fun _ _ h=>h)).trans HO2.out (K:=F) (fun _ _ h=>h) hF1).trans ho3 (fun _ _ h=>h) hF22
     have HON:=Lib.hid hON
     have HFN:=Lib.hid hFN
     clear hON hFN ho3 hF3
     gi_wp2
     go_ret
     exact ⟨F3,G3,HON.out,HFN.out,.inr ⟨rfl,pre',hp',hx3⟩⟩
   ·have hs2:=ho2.size
    have hF1:∀ j,j<W.heap.size→F' j→F j:=fun j h1 h2=>by
     rcases HF'.out j h2 with h | h
     ·exact h
     ·omega
    have hFN:∀ j,F2 j→F j∨(W.heap.size≤j∧j<W2.heap.size):=fun j h=>by
     rcases hF2 j h with h | h
     ·rcases HF'.out j h with h | h
      ·exact .inl h
      ·exact .inr ⟨h.1,by omega⟩
     ·exact .inr ⟨by omega,h.2⟩
    have HON:Hid (Only F W W2):=Lib.hid ((HO.out.trans (Only.of_below HB1R.out F) (K:=F) (fun _ _ h=>h) (fun _ _ h=>h)).trans ho2 (K:=F) (fun _ _ h=>h) hF1)
    have HFN:=Lib.hid hFN
    have HFX:=Lib.hid hfx
    clear hFN ho2 hF2 hy hfx
    gi_wp2
    refine ⟨fun f h=>(by cases h),?_⟩
    gi_wp2
    go_ret
    exact ⟨F2,G2,HON.out,HFN.out,.inr ⟨rfl,_,HFX.out,hx2⟩⟩
  ·obtain rfl:k=af.length:=by omega
   rw [List.take_length] at HJK
   gi_wp2
   go_ret
   exact ⟨F',G',HO.out,HF'.out,.inl ⟨rfl,HJK.out⟩⟩
theorem each_calls (f:File) (A:Option Addr) (c:Nat) (w:World) :
  Calls Tryz.prog 37 #[fileV f A c] w fun e w'=>e=.returned (.func (.func 77) #[] #[.pointer (some ⟨w.heap.size,0,none⟩)])∧w'=w.alloc (.cells (fc f A c) 25):=by
 go_enter Tryz.func37,Tryz.ntmps37
 unfold fileV
 go_wp2
 go_ret
 exact ⟨rfl,rfl⟩
set_option maxHeartbeats 8000000 in
set_option maxRecDepth 100000 in
theorem each_gives (w0 w:World) (f:File) (A:Option Addr) (c kb:Nat) (hbk:f.bulk≤1099511627776) (hr:FileK.C w0 A f.files.length f.files) (hc:f.files.length≤c) (hb0:Below w0.heap.size w0 w) (hkb:w0.heap.size≤kb)
  (hcell:w.heap[kb]? = some (.cells (fc f A c) 25 (0,0))) :
  GivesR Tryz.prog 77 #[.pointer (some ⟨kb,0,none⟩)] (EncF w0 w.heap.size) HdF (fun k=>k<w0.heap.size∨k=kb) (preF [] f) w:=by
 intro n l J Jx F G W hbW hF hG hJ hJx h0 hY
 have hws:=hbW.size
 have hw0:=hb0.size
 have hklt:=blk_lt hcell
 have hcW:W.heap[kb]? = _:=(hbW.block kb hklt).trans hcell
 have hs1:(W.alloc (.cells #[.func (.yield l) #[] #[]] 119)).heap.size=W.heap.size+1:=by simp
 have b2:=Boxed.new (W.alloc (.cells #[.func (.yield l) #[] #[]] 119)) 119 .nilFunc
 rw [hs1] at b2
 have HH:Hid (Holds l W.heap.size (W.heap.size+1) (((W.alloc (.cells #[.func (.yield l) #[] #[]] 119)).alloc (.cells #[.nilFunc] 119)).setCell ⟨W.heap.size+1,0,none⟩ (.func (.func 78) #[] #[.pointer (some ⟨W.heap.size,0,none⟩),.pointer (some ⟨W.heap.size+1,0,none⟩)]))) :=
  Lib.hid ⟨((Boxed.new W _ _).alloc _).other (by omega) _,b2.set _⟩
 have hO2:Only (fun k=>W.heap.size≤k∧¬ F k∧¬ G k) W (((W.alloc (.cells #[.func (.yield l) #[] #[]] 119)).alloc (.cells #[.nilFunc] 119)).setCell ⟨W.heap.size+1,0,none⟩ (.func (.func 78) #[] #[.pointer (some ⟨W.heap.size,0,none⟩),.pointer (some ⟨W.heap.size+1,0,none⟩)])) :=
  ((Only.alloc _ _ _).trans (Only.alloc (fun k=>W.heap.size≤k∧¬ F k∧¬ G k) _ _) (K:=fun k=>W.heap.size≤k∧¬ F k∧¬ G k) (fun _ _ h=>h) (fun _ _ h=>h)).trans (Only.setCell _ _ _) (fun _ _ h=>h)
   (fun k hk e=>by simp only at e;omega)
 have c9:=b2.cell
 have f9:=b2.frozen
 have hS2:(((W.alloc (.cells #[.func (.yield l) #[] #[]] 119)).alloc (.cells #[.nilFunc] 119)).setCell ⟨W.heap.size+1,0,none⟩ (.func (.func 78) #[] #[.pointer (some ⟨W.heap.size,0,none⟩),.pointer (some ⟨W.heap.size+1,0,none⟩)])).heap.size=W.heap.size+2:=by simp [World.setCell]
 clear hs1 b2
 have hj2:=hJ _ _ _ _ _ h0 hO2
 have HI:=Lib.hid (each_in l W.heap.size (W.heap.size+1) w0 W.heap.size (Nat.le_refl _) (by omega) (by omega) J Jx (preF [] f) hJ hJx
  (fun pre x args F1 G1 W1 a1 a2 a3 a4 a5=>hY pre x args F1 G1 W1 a1 a2 a3 (by obtain ⟨v,A',c',e,e1,e2,e3⟩:=a4;exact ⟨v,A',c',e,Kd.R_lower e1 hws,e2,e3⟩) a5)
  f.bulk (n - 1) f A c (.slice none 0 0) [] [] F G (fun k=>k<w0.heap.size∨k=W.heap.size∨k=W.heap.size+1) _ (Nat.le_refl _) (by simp only [List.length_nil];omega) hr hc ((hb0.trans (hbW.mono hw0)).trans (hO2.below (by omega) (fun k hk h=>by omega))) (Kd.R_nil _ _ _ _ _) HH.out
  (fun k hk=>.inl hk) (.inr (.inl rfl)) (.inr (.inr rfl)) (by
   rintro k (h | rfl | rfl)
   ·exact ⟨fun hf=>(hF k hf).2 (.inl h),by rw [hS2];omega⟩
   ·exact ⟨fun hf=>by have:=(hF _ hf).1;omega,by rw [hS2];omega⟩
   ·exact ⟨fun hf=>by have:=(hF _ hf).1;omega,by rw [hS2];omega⟩) (fun k hk=>by have:=(hF k hk).1;rw [hS2];omega) (by rw [hS2];omega) hj2 (List.prefix_refl _))
 have HC2:=Lib.hid ((hO2.block kb (by omega) (fun h=>by omega)).trans hcW)
 have HB2:=Lib.hid HH.out.2
 clear hS2 hj2 hO2 HH hJ hJx hY h0 hF hG hbW hr hb0 hcell
 obtain ⟨fn,fk,fd,fl⟩:=f
 have y0:(((W.alloc (.cells #[.func (.yield l) #[] #[]] 119)).alloc (.cells #[.nilFunc] 119)).setCell ⟨W.heap.size+1,0,none⟩ (.func (.func 78) #[] #[.pointer (some ⟨W.heap.size,0,none⟩),.pointer (some ⟨W.heap.size+1,0,none⟩)])).cell? ⟨kb,0,none⟩=some (.string fn):=cell_of HC2.out rfl
 have y1:(((W.alloc (.cells #[.func (.yield l) #[] #[]] 119)).alloc (.cells #[.nilFunc] 119)).setCell ⟨W.heap.size+1,0,none⟩ (.func (.func 78) #[] #[.pointer (some ⟨W.heap.size,0,none⟩),.pointer (some ⟨W.heap.size+1,0,none⟩)])).cell? ⟨kb,1,none⟩=some (.int .u8 fk):=cell_of HC2.out rfl
 have y2:(((W.alloc (.cells #[.func (.yield l) #[] #[]] 119)).alloc (.cells #[.nilFunc] 119)).setCell ⟨W.heap.size+1,0,none⟩ (.func (.func 78) #[] #[.pointer (some ⟨W.heap.size,0,none⟩),.pointer (some ⟨W.heap.size+1,0,none⟩)])).cell? ⟨kb,2,none⟩=some (.string fd):=cell_of HC2.out rfl
 have y3:(((W.alloc (.cells #[.func (.yield l) #[] #[]] 119)).alloc (.cells #[.nilFunc] 119)).setCell ⟨W.heap.size+1,0,none⟩ (.func (.func 78) #[] #[.pointer (some ⟨W.heap.size,0,none⟩),.pointer (some ⟨W.heap.size+1,0,none⟩)])).cell? ⟨kb,3,none⟩=some (.slice A fl.length c):=cell_of HC2.out rfl
 have y4:(((W.alloc (.cells #[.func (.yield l) #[] #[]] 119)).alloc (.cells #[.nilFunc] 119)).setCell ⟨W.heap.size+1,0,none⟩ (.func (.func 78) #[] #[.pointer (some ⟨W.heap.size,0,none⟩),.pointer (some ⟨W.heap.size+1,0,none⟩)])).cell? ⟨W.heap.size+1,0,none⟩=some (.func (.func 78) #[] #[.pointer (some ⟨W.heap.size,0,none⟩),.pointer (some ⟨W.heap.size+1,0,none⟩)]):=HB2.out.cell
 refine callsIn_of_wp Tryz.func77 rfl trivial ?_ rfl
 simp only [Tryz.ntmps77,List.size_toArray,List.length_cons,List.length_nil,Nat.reduceAdd,Nat.reduceSub,Array.replicate_succ,Array.replicate_zero,List.push_toArray,List.append_toArray,List.nil_append,List.cons_append]
 gi_wp2
 have hst:(store ⟨W.heap.size+1,0,none⟩ (.func (.func 78) #[] #[.pointer (some ⟨W.heap.size,0,none⟩),.pointer (some ⟨W.heap.size+1,0,none⟩)])).run Tryz.prog ((W.alloc (.cells #[.func (.yield l) #[] #[]] 119)).alloc (.cells #[.nilFunc] 119))=.ok () (((W.alloc (.cells #[.func (.yield l) #[] #[]] 119)).alloc (.cells #[.nilFunc] 119)).setCell ⟨W.heap.size+1,0,none⟩ (.func (.func 78) #[] #[.pointer (some ⟨W.heap.size,0,none⟩),.pointer (some ⟨W.heap.size+1,0,none⟩)])):=by
  rw [run_store _ _ _ _ _ rfl]
  simp [stored,c9,f9]
 rw [hst]
 simp only [Result.andThen]
 generalize (((W.alloc (.cells #[.func (.yield l) #[] #[]] 119)).alloc (.cells #[.nilFunc] 119)).setCell ⟨W.heap.size+1,0,none⟩ (.func (.func 78) #[] #[.pointer (some ⟨W.heap.size,0,none⟩),.pointer (some ⟨W.heap.size+1,0,none⟩)]))=W2 at *
 clear c9 f9 hst
 gi_wp2
 refine ⟨trivial,(fun h=>by cases h),?_⟩
 refine HI.out.mono ?_
 rintro e W3 ⟨F3,G3,ho3,hF3,(⟨rfl,hj3⟩ | ⟨rfl,pre',hp',hx3⟩)⟩
 ·gi_wp2
  go_end0
  exact ⟨⟨_,rfl⟩,.inl ⟨F3,G3,by simpa using hj3⟩⟩
 ·gi_wp2
  go_end0
  exact ⟨⟨_,rfl⟩,.inr ⟨pre',F3,G3,hp',hx3⟩⟩
end Go.Proofs.YtdnhjnlhmfajnaaGreatDoor.G
