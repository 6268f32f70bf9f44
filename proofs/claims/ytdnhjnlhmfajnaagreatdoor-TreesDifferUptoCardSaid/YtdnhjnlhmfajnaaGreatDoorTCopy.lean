import Derived.Test.YtdnhjnlhmfajnaaGreatDoorTRSame
import Derived.Test.YtdnhjnlhmfajnaaGreatDoorKit
import Derived.Test.YtdnhjnlhmfajnaaGreatDoorSq
set_option linter.unusedVariables false
set_option linter.unusedSimpArgs false
section
namespace Go.Proofs.YtdnhjnlhmfajnaaGreatDoor.G
open Go.RowKit Go.Lib Go.Proofs.YtdnhjnlhmfajnaaGreatDoorW.PrintWords Go.Proofs.YtdnhjnlhmfajnaaGreatDoorW.PrintLast
set_option linter.unusedVariables false
open Classical in
noncomputable def sameLT (a b:List File):Bool:=decide (a=b)
theorem sameLT_self (a:List File):sameLT a a=true:=by simp [sameLT]
theorem sameLT_ne {a b:List File} (h:a≠b):sameLT a b=false:=by simp [sameLT,h]
set_option maxHeartbeats 8000000 in
set_option maxRecDepth 100000 in
theorem equalFunc_calls (af bf:List File) (A:Option Addr) (c:Nat) (B:Option Addr) (d:Nat) (w:World) (hr:FileK.C w A af.length af) (hc:af.length≤c) (hs:FileK.C w B bf.length bf) (hd:bf.length≤d) (hal:af.length≤1099511627776)
  (HI:Hid (∀ x∈af,∀ (y:File) A c B d W,FileK.C W A x.files.length x.files→x.files.length≤c→FileK.C W B y.files.length y.files→y.files.length≤d→Calls Tryz.prog 61 #[fileV x A c,fileV y B d] W fun e w'=>e=.returned (.bool (sameT x y))∧Below W.heap.size W w')) :
  Calls Tryz.prog 99 #[.slice A af.length c,.slice B bf.length d,.func (.func 61) #[] #[]] w fun e w'=>e=.returned (.bool (sameLT af bf))∧Below w.heap.size w w':=by
 have HR:=Lib.hid hr
 have HS:=Lib.hid hs
 clear hr hs
 by_cases hl:af.length=bf.length
 ·have hz1:((af.length:Int) != (bf.length:Int))=false:=by simp [hl]
  have HL:=Lib.hid hl
  clear hl
  go_enter Tryz.func99,Tryz.ntmps99
  go_wp2_with fail
  go_loopw [17] (fun i wr=>∃ k:Nat,k≤af.length∧i=.int .i64 k∧Below w.heap.size w wr∧Hid (∀ j (h1:j<af.length) (h2:j<bf.length),j<k→af[j]=bf[j])) (fun i _=>af.length - (RowKit.intOf i).toNat)
  case atStart=>exact ⟨0,by omega,rfl,Below.refl _ _,Lib.hid (fun j _ _ h=>by omega)⟩
  case round =>
   obtain ⟨k,hk,rfl,hb,HE⟩:=hrel
   by_cases hlt:k<af.length
   ·have hlt2:k<bf.length:=by have:=HL.out;omega
    obtain ⟨aad,A',c',rfl,p1,p2,p3,p4,hc',hC'⟩:=file_at HR.out k hlt
    obtain ⟨bad,B',d',rfl,q1,q2,q3,q4,hd',hD'⟩:=file_at HS.out k hlt2
    have mv:∀ {p:Addr} {v:Value},w.cell? p=some v→wr.cell? p=some v:=fun h=>(hb.cell (World.block_lt_of_cell? w _ h)).trans h
    have p1':=mv p1
    have p2':=mv p2
    have p3':=mv p3
    have p4':=mv p4
    have q1':=mv q1
    have q2':=mv q2
    have q3':=mv q3
    have q4':=mv q4
    have HC:=Lib.hid (fun W (h:Below wr.heap.size wr W)=>(show Calls Tryz.prog 61 #[.agg #[.string af[k].name,.int .u8 af[k].kind,.string af[k].data,.slice A' af[k].files.length c'],.agg #[.string bf[k].name,.int .u8 bf[k].kind,.string bf[k].data,.slice B' bf[k].files.length d']] W _ from HI.out af[k] (List.getElem_mem hlt) bf[k] A' c' B' d' W (Kd.C_below hC' (hb.trans (h.mono hb.size))) hc' (Kd.C_below hD' (hb.trans (h.mono hb.size))) hd').mono (R':=fun e w'=>e=.returned (.bool (sameT af[k] bf[k]))∧Below wr.heap.size wr w') fun e w' ⟨he,hb2⟩=>⟨he,h.trans (hb2.mono h.size)⟩)
    have HB:Hid (∀ r,sameT af[k] bf[k]=r→(r=true→∀ j (h1:j<af.length) (h2:j<bf.length),j<k+1→af[j]=bf[j])∧(r=false→af≠bf)):=Lib.hid (by
     intro r hr
     refine ⟨fun e j h1 h2 h3 => ?_,fun e he => ?_⟩
     ·by_cases hj:j<k
      ·exact HE.out j h1 h2 hj
      ·obtain rfl:j=k:=by omega
       subst e
       exact sameT_eq hr
     ·subst he
      rw [sameT_self] at hr
      subst hr
      cases e)
    clear p1 p2 p3 p4 q1 q2 q3 q4 mv hC' hD' HE
    generalize sameT af[k] bf[k]=sb at *
    generalize af[k]=x at *
    generalize bf[k]=y at *
    have g1:(k:Int)<(af.length:Int):=by omega
    have g2:(k:Int)<(bf.length:Int):=by omega
    have mv2:∀ {p:Addr} {v:Value},wr.cell? p=some v→(wr.alloc (.cells (fc x A' c') 25)).cell? p=some v:=fun h=>((below_alloc (Below.refl wr.heap.size wr) _).cell (World.block_lt_of_cell? wr _ h)).trans h
    have r1:=mv2 q1'
    have r2:=mv2 q2'
    have r3:=mv2 q3'
    have r4:=mv2 q4'
    clear mv2 q1' q2' q3' q4' HI
    go_wp2_with fail
    refine (HC.out _ (((Below.refl _ _).alloc (Nat.le_refl _) _).alloc (by simp) _)).mono ?_
    rintro e w1 ⟨rfl,hb1⟩
    have hb2:=bstep hb hb.size hb1
    clear r1 r2 r3 r4 p1' p2' p3' p4'
    cases sb
    ·go_wp2_with fail
     go_ret
     exact ⟨by rw [sameLT_ne ((HB.out _ rfl).2 rfl)];rfl,hb2⟩
    ·go_wp2_with fail
     go_roundw
     case rel=>exact ⟨k+1,by omega,by go_num,hb2,Lib.hid ((HB.out _ rfl).1 rfl)⟩
     case measure=>simp [RowKit.intOf];omega
   ·obtain rfl:k=af.length:=by omega
    have he:af=bf:=List.ext_getElem HL.out (fun j h1 h2=>HE.out j h1 h2 h1)
    clear hlt HE
    go_wp2_with fail
    go_ret
    exact ⟨by rw [he,sameLT_self];rfl,hb⟩
 ·have h5:((af.length:Int) != (bf.length:Int))=true:=by rw [bne_iff_ne];omega
  rw [sameLT_ne (fun h=>hl (by rw [h]))]
  go_enter Tryz.func99,Tryz.ntmps99
  go_wp2_with fail
  go_ret
  exact ⟨rfl,Below.refl _ _⟩
set_option maxHeartbeats 8000000 in
set_option maxRecDepth 100000 in
theorem same_file:∀ (n:Nat) (a b:File) (A:Option Addr) (c:Nat) (B:Option Addr) (d:Nat) (w:World),a.bulk≤n→a.bulk≤1099511627776→FileK.C w A a.files.length a.files→a.files.length≤c→FileK.C w B b.files.length b.files→b.files.length≤d →
  Calls Tryz.prog 61 #[fileV a A c,fileV b B d] w fun e w'=>e=.returned (.bool (sameT a b))∧Below w.heap.size w w':=by
 intro n
 induction n with
 | zero=>intro a b A c B d w h;have:=bulk_eq a;omega
 | succ n ih =>
 intro a b A c B d w hn hbk hr hc hs hd
 have HI:Hid (∀ x∈a.files,∀ (y:File) A c B d W,FileK.C W A x.files.length x.files→x.files.length≤c→FileK.C W B y.files.length y.files→y.files.length≤d→Calls Tryz.prog 61 #[fileV x A c,fileV y B d] W fun e w'=>e=.returned (.bool (sameT x y))∧Below W.heap.size W w') :=
  Lib.hid (fun x hx y A c B d W=>by have:=bulk_child hx;exact ih x y A c B d W (by omega) (by omega))
 have hlen:=bulkL_len a.files
 have hbe:=bulk_eq a
 have HE:=Lib.hid (fun W h=>equalFunc_calls a.files b.files A c B d W (Kd.C_below hr h) hc (Kd.C_below hs h) hd (by omega) HI)
 clear ih HI hr hs hbe hlen hn hbk
 obtain ⟨an,ak,ad,af⟩:=a
 obtain ⟨bn,bk,bd,bf⟩:=b
 change af.length≤c at hc
 change bf.length≤d at hd
 change Hid (∀ W,Below w.heap.size w W→Calls Tryz.prog 99 #[.slice A af.length c,.slice B bf.length d,.func (.func 61) #[] #[]] W fun e w'=>e=.returned (.bool (sameLT af bf))∧Below W.heap.size W w') at HE
 by_cases hne:an=bn∧ak=bk∧ad=bd
 ·obtain ⟨rfl,rfl,rfl⟩:=hne
  have hS:sameT ⟨an,ak,ad,af⟩ ⟨an,ak,ad,bf⟩=sameLT af bf:=by
   by_cases h:af=bf
   ·rw [h,sameT_self,sameLT_self]
   ·rw [sameT_ne (fun e=>h (by injection e)),sameLT_ne h]
  rw [hS]
  generalize sameLT af bf=sb at *
  clear hS
  go_enter Tryz.func61,Tryz.ntmps61
  unfold fileV
  go_wp2_with fail
  refine (HE.out _ (((Below.refl _ _).alloc (Nat.le_refl _) _).alloc (by simp) _)).mono ?_
  rintro e w1 ⟨rfl,hb1⟩
  have hb2:Below w.heap.size w w1:=bstep (((Below.refl _ _).alloc (Nat.le_refl _) _).alloc (by simp) _) (by simp;omega) hb1
  go_wp2_with fail
  go_ret
  exact ⟨rfl,hb2⟩
 ·have hf:sameT ⟨an,ak,ad,af⟩ ⟨bn,bk,bd,bf⟩=false:=sameT_ne (fun h=>hne (by injection h with h1 h2 h3 h4;exact ⟨h1,h2,h3⟩))
  rw [hf]
  clear HE hf
  go_enter Tryz.func61,Tryz.ntmps61
  unfold fileV
  by_cases h1:an=bn
  ·subst h1
   by_cases h2:ak=bk
   ·subst h2
    have h3:¬ ad=bd:=fun h=>hne ⟨rfl,rfl,h⟩
    have h5:(ad.toList == bd.toList)=false:=by rw [beq_eq_false_iff_ne];exact fun h=>h3 (toList_inj.1 h)
    go_wp2_with fail
    go_ret
    exact ⟨rfl,((Below.refl _ _).alloc (Nat.le_refl _) _).alloc (by simp) _⟩
   ·have h5:(ak == bk)=false:=beq_eq_false_iff_ne.2 h2
    go_wp2_with fail
    go_ret
    exact ⟨rfl,((Below.refl _ _).alloc (Nat.le_refl _) _).alloc (by simp) _⟩
  ·have h5:(an.toList == bn.toList)=false:=by rw [beq_eq_false_iff_ne];exact fun h=>h1 (toList_inj.1 h)
   go_wp2_with fail
   go_ret
   exact ⟨rfl,((Below.refl _ _).alloc (Nat.le_refl _) _).alloc (by simp) _⟩
end Go.Proofs.YtdnhjnlhmfajnaaGreatDoor.G
end
section
namespace Go.Proofs.YtdnhjnlhmfajnaaGreatDoor.G
open Go.RowKit Go.Lib Go.Proofs.YtdnhjnlhmfajnaaGreatDoorW.PrintWords Go.Proofs.YtdnhjnlhmfajnaaGreatDoorW.PrintLast
set_option linter.unusedVariables false
set_option linter.unusedSimpArgs false
theorem info_file:(Tryz.prog.info? 25).map (fun i=>(i.zero,i.size,i.bytes))=some (some (.agg #[(.string ⟨#[]⟩),(.int .u8 0),(.string ⟨#[]⟩),(.slice none 0 0)]),4,64):=by kernel_rfl
theorem three_boxes (w:World) (cs ds es:Array Value) (t u v:TypeId):(((w.alloc (.cells cs t)).alloc (.cells ds u)).alloc (.cells es v)).heap[w.heap.size+2]? = some (.cells es v (0,0)):=by
 have h:=blk_new ((w.alloc (.cells cs t)).alloc (.cells ds u)) (.cells es v)
 rwa [show ((w.alloc (.cells cs t)).alloc (.cells ds u)).heap.size=w.heap.size+2 by simp] at h
set_option maxHeartbeats 8000000 in
set_option maxRecDepth 100000 in
theorem copy_file:∀ (n:Nat) (a:File) (A:Option Addr) (c:Nat) (w:World),a.bulk≤n→a.bulk≤1099511627776→FileK.C w A a.files.length a.files→a.files.length≤c →
  Calls Tryz.prog 29 #[fileV a A c] w fun e w'=>∃ v,e=.returned (.agg #[.string a.name,.int .u8 a.kind,.string a.data,v])∧FileK.R 25 w' w.heap.size (fun _=>True) v a.files∧Below w.heap.size w w':=by
 intro n
 induction n with
 | zero=>intro a A c w h;have:=bulk_eq a;omega
 | succ n ih =>
 intro a A c w hn hbk hr hc
 have HI:=Lib.hid (fun (x:File) A c W h1 h2=>ih x A c W h1 h2)
 clear ih
 have hlen:=bulkL_len a.files
 have hbe:=bulk_eq a
 have HR:=Lib.hid hr
 clear hr
 have HN':∀ x∈a.files,x.bulk≤n∧x.bulk≤1099511627776:=fun x hx=>by have:=bulk_child hx;omega
 have hal':a.files.length≤1099511627776:=by omega
 obtain ⟨an,ak,ad,af⟩:=a
 change af.length≤c at hc
 change Hid (FileK.C w A af.length af) at HR
 have hal:af.length≤1099511627776:=hal'
 have HN:Hid (∀ x∈af,x.bulk≤n∧x.bulk≤1099511627776):=Lib.hid HN'
 clear hbe hlen hn hbk hal' HN'
 go_enter Tryz.func29,Tryz.ntmps29
 unfold fileV
 go_wp2_with fail
 go_loopw [16] (fun i wr=>∃ (k:Nat) (v:Value),k≤af.length∧i=.int .i64 k∧Below w.heap.size w wr∧Hid (wr.heap[w.heap.size+2]? = some (.cells #[.string an,.int .u8 ak,.string ad,v] 25 (0,0)))
  ∧ Hid (wr.heap[w.heap.size+1]? = some (.cells zC 25 (0,0)))
  ∧ Hid (FileK.R 25 wr w.heap.size (fun j=>w.heap.size+3≤j) v (af.take k))∧w.heap.size+3≤wr.heap.size) (fun i _=>af.length - (RowKit.intOf i).toNat)
 case atStart =>
  exact ⟨0,.slice none 0 0,by omega,rfl,((((Below.refl _ _).alloc (Nat.le_refl _) _).alloc (by simp) _).alloc (by simp;omega) _),Lib.hid (three_boxes w _ _ _ _ _ _),Lib.hid ((Below.heap_alloc _ _ _ (by simp)).trans (two_boxes w _ _ _ _).2),Lib.hid (Kd.R_nil _ _ _ _ _),by simp⟩
 case round =>
  obtain ⟨k,v,hk,rfl,hb,HB2,HB1,HV,hsz⟩:=hrel
  by_cases hlt:k<af.length
  ·obtain ⟨aad,A',c',rfl,p1,p2,p3,p4,hc',hC'⟩:=file_at HR.out k hlt
   have mv:∀ {p:Addr} {v:Value},w.cell? p=some v→wr.cell? p=some v:=fun h=>(hb.cell (World.block_lt_of_cell? w _ h)).trans h
   have p1':=mv p1
   have p2':=mv p2
   have p3':=mv p3
   have p4':=mv p4
   have hmem:=HN.out _ (List.getElem_mem hlt)
   have htk:af.take (k+1)=af.take k++[af[k]]:=by rw [List.take_succ_eq_append_getElem hlt]
   have HTK:=Lib.hid htk
   have HC:=Lib.hid (fun W (h:Below wr.heap.size wr W)=>(show Calls Tryz.prog 29 #[.agg #[.string af[k].name,.int .u8 af[k].kind,.string af[k].data,.slice A' af[k].files.length c']] W _ from HI.out af[k] A' c' W hmem.1 hmem.2 (Kd.C_below hC' (hb.trans (h.mono hb.size))) hc'))
   clear p1 p2 p3 p4 mv hmem hC' htk HI
   generalize af[k]=x at *
   have g1:(k:Int)<(af.length:Int):=by omega
   have HVb:=Kd.R_mono (Kd.R_bound HV.out) (ok':=fun j=>w.heap.size+3≤j∧j<wr.heap.size) fun j hj=>⟨hj.1,hj.2.2.1⟩
   have hf2:wr.frozen? ⟨w.heap.size+1+1,3,none⟩=false:=by simp [World.frozen?,HB2.out]
   have hx2:wr.cell? ⟨w.heap.size+1+1,3,none⟩=some v:=cell_of HB2.out rfl
   have hbx:=below_alloc (Below.refl wr.heap.size wr) (.cells (fc x A' c') 25)
   have hnb:=blk_new wr (.cells (fc x A' c') 25)
   have hsX:(wr.alloc (.cells (fc x A' c') 25)).heap.size=wr.heap.size+1:=by simp
   go_wp2_with fail
   clear p1' p2' p3' p4'
   generalize wr.alloc (.cells (fc x A' c') 25)=W1 at *
   have y0:W1.cell? ⟨wr.heap.size,0,none⟩=some (.string x.name):=cell_of hnb rfl
   have y1:W1.cell? ⟨wr.heap.size,1,none⟩=some (.int .u8 x.kind):=cell_of hnb rfl
   have y2:W1.cell? ⟨wr.heap.size,2,none⟩=some (.string x.data):=cell_of hnb rfl
   have y3:W1.cell? ⟨wr.heap.size,3,none⟩=some (.slice A' x.files.length c'):=cell_of hnb rfl
   have z3:=(hbx.cell (p:=⟨w.heap.size+1+1,3,none⟩) (by simp only;omega)).trans hx2
   have zf:=(hbx.frozen (p:=⟨w.heap.size+1+1,3,none⟩) (by simp only;omega)).trans hf2
   have HVX:=Lib.hid (Kd.R_below HVb hbx)
   have HNB:=Lib.hid hnb
   clear hx2 hf2 HVb hnb
   refine start_ (n:=8) (S:=fun w'=>w'.cell? ⟨w.heap.size+1+1,3,none⟩=some v∧w'.cell? ⟨wr.heap.size,0,none⟩=some (.string x.name)∧w'.cell? ⟨wr.heap.size,1,none⟩=some (.int .u8 x.kind)∧w'.cell? ⟨wr.heap.size,2,none⟩=some (.string x.data)∧w'.cell? ⟨wr.heap.size,3,none⟩=some (.slice A' x.files.length c')) (ds:=[7]) #[false,false,false,false,false,false,false,false] (by kernel_rfl) rfl rfl ⟨z3,y0,y1,y2,y3⟩ (fun hHeld => ?_)
   refine pA 0 20 #[true,false,false,false,false,false,false,false] ?_
   refine tA 1 21 #[true,true,false,false,false,false,false,false] hHeld ?_ (hy:=by
    rintro w' ⟨s0,s1,s2,s3,s4⟩
    go_simp
    with_reducible rfl)
   refine tA 2 22 #[true,true,true,false,false,false,false,false] hHeld ?_ (hy:=by
    rintro w' ⟨s0,s1,s2,s3,s4⟩
    go_simp
    with_reducible rfl)
   refine eA 3 23 #[true,true,true,true,false,false,false,false] (fun K hK => ?_)
   refine gA Tryz.func29 #[.agg (fc x A' c')] ?_
   refine (HC.out _ (bdrew hbx)).mono ?_
   rintro e w1 ⟨v1,rfl,ho1,hb1⟩
   refine ⟨_,rfl,?_⟩
   have hszd:W1.drew.heap.size=W1.heap.size:=rfl
   rw [hszd] at ho1 hb1
   have hb1':Below W1.heap.size W1 w1:=(bdrew (Below.refl W1.heap.size W1)).trans hb1
   have hb1r:Below wr.heap.size wr w1:=hbx.trans (hb1'.mono (by omega))
   have hbw1:=bstep hb hb.size hb1r
   have HV1:=Lib.hid (Kd.R_below HVX.out hb1')
   have HP1:=Lib.hid (Kd.R_lower (base':=w.heap.size) (Kd.R_mono (Kd.R_bound ho1) (ok':=fun j=>W1.heap.size≤j) fun j hj=>hj.2.1) (by omega))
   have hs1:=hb1'.size
   have HG2:=Lib.hid ((hb1r.block (w.heap.size+2) (by omega)).trans HB2.out)
   have HG1:=Lib.hid ((hb1r.block (w.heap.size+1) (by omega)).trans HB1.out)
   have HGX:=Lib.hid ((hb1'.block wr.heap.size (by omega)).trans HNB.out)
   obtain ⟨A1,c1,rfl,hc1,hC1⟩:=Kd.R_reads HP1.out
   clear ho1 hC1 z3 zf hb1 hHeld y0 y1 y2 y3
   refine hK.out _ _ ⟨cell_of HG2.out rfl,cell_of HGX.out rfl,cell_of HGX.out rfl,cell_of HGX.out rfl,cell_of HGX.out rfl⟩ (fun hHeld => ?_)
   refine nA 23 ?_
   refine eA 4 24 #[true,true,true,true,true,false,false,false] (fun K hK => ?_)
   refine vA ?_
   have HG2a:=(Below.heap_alloc w1 (.cells (fc x A1 c1) 25) (w.heap.size+2) (by omega)).trans HG2.out
   have HGXa:=(Below.heap_alloc w1 (.cells (fc x A1 c1) 25) wr.heap.size (by omega)).trans HGX.out
   refine hK.out _ _ ⟨cell_of HG2a rfl,cell_of HGXa rfl,cell_of HGXa rfl,cell_of HGXa rfl,cell_of HGXa rfl⟩ (fun hHeld => ?_)
   refine nA 24 ?_
   refine eA 5 25 #[true,true,true,true,true,true,false,false] (fun K hK => ?_)
   refine Kd.R_append_step FileK (w0:=w) w.heap.size (by rfl) (.tmp 21) (.tmp 24) 23 25 (.agg #[(.string ⟨#[]⟩),(.int .u8 0),(.string ⟨#[]⟩),(.slice none 0 0)]) 64 rfl Tryz.underlying23 info_file rfl (by decide) (by omega) v (af.take k) x [.string x.name,.int .u8 x.kind,.string x.data,.slice A1 x.files.length c1] (fun j=>w.heap.size+3≤j) (fun j=>W1.heap.size≤j) rfl rfl ?aP ?aK ?aF ?aO ?aB ?aS ?aL ?_
   case aP=>exact file_mkM _ _ _ x HP1.out
   case aK=>exact fun j hj=>⟨by omega,fun e=>by have:=HV1.out.1 j e.symm;omega⟩
   case aF=>exact fun j hj=>by omega
   case aO=>exact Kd.R_mono HV1.out fun j hj=>hj.1
   case aB=>exact hbw1
   case aS=>exact hbw1.size
   case aL=>rw [List.length_take];omega
   intro v2 w2 ho2 hb2 hg2 hat2
   rw [← HTK.out] at ho2
   have hrow:∀ j,v.ownBlock=some j→w.heap.size+3≤j:=fun j hj=>(HV1.out.1 j hj).1
   have HK2:=hg2.block (w.heap.size+2) (by omega) (fun e=>by have:=hrow _ e.symm;omega)
   have HK1:=hg2.block (w.heap.size+1) (by omega) (fun e=>by have:=hrow _ e.symm;omega)
   have HH2:=Lib.hid (HK2.trans HG2.out)
   have HH1:=Lib.hid (HK1.trans HG1.out)
   have HHX:=Lib.hid ((hg2.block wr.heap.size (by omega) (fun e=>by have:=HV1.out.1 _ e.symm;omega)).trans HGX.out)
   have HO2:=Lib.hid ho2
   have hg2s:=hg2.size
   obtain ⟨A2,c2,rfl,hc2,hC2⟩:=Kd.R_reads ho2
   rw [show (af.take (k+1)).length=k+1 by rw [List.length_take];omega] at HO2 ⊢
   clear ho2 hC2 hHeld HK1 HK2 hat2 hrow hg2
   refine hK.out _ _ ⟨cell_of HH2.out rfl,cell_of HHX.out rfl,cell_of HHX.out rfl,cell_of HHX.out rfl,cell_of HHX.out rfl⟩ (fun hHeld => ?_)
   refine nA 25 ?_
   refine pA 6 26 #[true,true,true,true,true,true,true,false] ?_
   refine last_ (i:=7) (N:=none) #[true,true,true,true,true,true,true,true] rfl rfl (by kernel_rfl) (by decide) (fun K hK => ?_)
   have hcs:w2.cell? ⟨w.heap.size+1+1,3,none⟩=some v:=cell_of HH2.out rfl
   have hfs:w2.frozen? ⟨w.heap.size+1+1,3,none⟩=false:=by simp [World.frozen?,HH2.out]
   refine sA ?_
   refine hK.out _ _ ?_
   refine done_ (by kernel_rfl) ?_
   go_wp2_with fail
   go_roundw
   case rel =>
    exact ⟨k+1,_,by omega,by go_num,hb2.setCell (p:=⟨w.heap.size+1+1,3,none⟩) (by simp only;omega) _,Lib.hid (blk_put (cs:=#[.string an,.int .u8 ak,.string ad,v]) HH2.out 3 _ rfl),Lib.hid ((Below.heap_setCell _ _ _ _ (by simp only;omega)).trans HH1.out),Lib.hid (Kd.R_far (p:=⟨w.heap.size+1+1,3,none⟩) HO2.out (fun j hj=>by simp only;omega) _),by simp [World.setCell];omega⟩
   case measure=>simp [RowKit.intOf];omega
  ·obtain rfl:k=af.length:=by omega
   have e0:wr.cell? ⟨w.heap.size+1+1,0,none⟩=some (.string an):=cell_of HB2.out rfl
   have e1:wr.cell? ⟨w.heap.size+1+1,1,none⟩=some (.int .u8 ak):=cell_of HB2.out rfl
   have e2:wr.cell? ⟨w.heap.size+1+1,2,none⟩=some (.string ad):=cell_of HB2.out rfl
   have e3:wr.cell? ⟨w.heap.size+1+1,3,none⟩=some v:=cell_of HB2.out rfl
   have d0:wr.cell? ⟨w.heap.size+1,0,none⟩=some (.string ⟨#[]⟩):=cell_of HB1.out rfl
   have d1:wr.cell? ⟨w.heap.size+1,1,none⟩=some (.int .u8 0):=cell_of HB1.out rfl
   have d2:wr.cell? ⟨w.heap.size+1,2,none⟩=some (.string ⟨#[]⟩):=cell_of HB1.out rfl
   have d3:wr.cell? ⟨w.heap.size+1,3,none⟩=some (.slice none 0 0):=cell_of HB1.out rfl
   have f0:∀ j,wr.frozen? ⟨w.heap.size+1,j,none⟩=false:=fun j=>by simp [World.frozen?,HB1.out]
   have f00:=f0 0
   have f01:=f0 1
   have f02:=f0 2
   have f03:=f0 3
   obtain ⟨A2,c2,rfl,hc2,hC2⟩:=Kd.R_reads HV.out
   clear hlt f0 hC2 HI
   rw [List.take_length] at HV
   have hbz:Below w.heap.size w ((((wr.setCell ⟨w.heap.size+1,0,none⟩ (.string an)).setCell ⟨w.heap.size+1,1,none⟩ (.int .u8 ak)).setCell ⟨w.heap.size+1,2,none⟩ (.string ad)).setCell ⟨w.heap.size+1,3,none⟩ (.slice A2 af.length c2)) :=
    (((hb.setCell (by simp only;omega) _).setCell (by simp only;omega) _).setCell (by simp only;omega) _).setCell (by simp only;omega) _
   have hVz:FileK.R 25 ((((wr.setCell ⟨w.heap.size+1,0,none⟩ (.string an)).setCell ⟨w.heap.size+1,1,none⟩ (.int .u8 ak)).setCell ⟨w.heap.size+1,2,none⟩ (.string ad)).setCell ⟨w.heap.size+1,3,none⟩ (.slice A2 af.length c2)) w.heap.size (fun _=>True) (.slice A2 af.length c2) af :=
    Kd.R_mono (Kd.R_far (Kd.R_far (Kd.R_far (Kd.R_far HV.out (p:=⟨w.heap.size+1,0,none⟩) (fun j hj=>by simp only;omega) _) (p:=⟨w.heap.size+1,1,none⟩) (fun j hj=>by simp only;omega) _) (p:=⟨w.heap.size+1,2,none⟩) (fun j hj=>by simp only;omega) _) (p:=⟨w.heap.size+1,3,none⟩) (fun j hj=>by simp only;omega) _) (fun _ _=>trivial)
   have HBZ:=Lib.hid hbz
   have HVZ:=Lib.hid hVz
   clear hbz hVz
   have HH:Hid (((((wr.setCell ⟨w.heap.size+1,0,none⟩ (.string an)).setCell ⟨w.heap.size+1,1,none⟩ (.int .u8 ak)).setCell ⟨w.heap.size+1,2,none⟩ (.string ad)).setCell ⟨w.heap.size+1,3,none⟩ (.slice A2 af.length c2)).heap[w.heap.size+1]? = some (.cells #[.string an,.int .u8 ak,.string ad,.slice A2 af.length c2] 25 (0,0))) :=
    Lib.hid (blk_put (cs:=#[.string an,.int .u8 ak,.string ad,.slice none 0 0]) (blk_put (cs:=#[.string an,.int .u8 ak,.string ⟨#[]⟩,.slice none 0 0]) (blk_put (cs:=#[.string an,.int .u8 0,.string ⟨#[]⟩,.slice none 0 0]) (blk_put (cs:=zC) HB1.out 0 _ rfl) 1 _ rfl) 2 _ rfl) 3 _ rfl)
   go_wp2_with fail
   refine bodyPost_ret (results_cell_row rfl _ _ (w.heap.size+1) 25 #[.string an,.int .u8 ak,.string ad,.slice A2 af.length c2] (0,0) _ rfl HH.out Tryz.underlying25 rfl (by kernel_rfl)) rfl ?_
   exact ⟨_,rfl,HVZ.out,HBZ.out⟩
end Go.Proofs.YtdnhjnlhmfajnaaGreatDoor.G
end
