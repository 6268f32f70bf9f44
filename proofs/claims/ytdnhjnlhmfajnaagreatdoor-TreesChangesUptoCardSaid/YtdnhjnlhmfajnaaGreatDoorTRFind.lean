import Derived.Test.YtdnhjnlhmfajnaaGreatDoorKit
import Derived.Test.YtdnhjnlhmfajnaaGreatDoorTStore
set_option linter.unusedVariables false
set_option linter.unusedSimpArgs false
namespace Go.Proofs.YtdnhjnlhmfajnaaGreatDoor.G
open Go.RowKit Go.Lib Go.Proofs.YtdnhjnlhmfajnaaGreatDoorW.PrintWords Go.Proofs.YtdnhjnlhmfajnaaGreatDoorW.PrintLast
set_option linter.unusedVariables false
set_option linter.unusedSimpArgs false
def findR:File→List ByteArray→File×Int
 | t,[]=>(t,0)
 | t,n :: p=>if t.kind=1 then (match t.files.find? (nameIs n) with | some x=>findR x p | none=>(zeroF,31)) else (zeroF,32)
theorem rf_at {l:List File} {n:ByteArray} {m:Nat} (h:m<l.length) (h0:∀ i (hi:i<l.length),i<m→nameIs n l[i]=false) (h1:nameIs n l[m]=true):l.find? (nameIs n)=some l[m]:=by
 rw [List.find?_eq_some_iff_getElem]
 exact ⟨h1,m,h,rfl,fun j hj=>by simp [h0 j (by omega) hj]⟩
theorem rf_none {l:List File} {n:ByteArray} (h0:∀ i (hi:i<l.length),nameIs n l[i]=false):l.find? (nameIs n)=none:=by
 rw [List.find?_eq_none]
 intro x hx
 obtain ⟨i,hi,rfl⟩:=List.mem_iff_getElem.1 hx
 simp [h0 i hi]
set_option maxHeartbeats 8000000 in
set_option maxRecDepth 100000 in
theorem rfind_calls (t:File) (A:Option Addr) (c:Nat) (Ap:Option Addr) (cp:Nat) (p:List ByteArray) (w:World) (hr:FileK.C w A t.files.length t.files) (hc:t.files.length≤c) (hbk:t.bulk≤1099511627776) (hp:Kd.C Kd.string w Ap p.length p) (hcp:p.length≤cp) (hpl:p.length≤1099511627776) :
  Calls Tryz.prog 56 #[fileV t A c,.slice Ap p.length cp] w fun e w'=>∃ A' c',e=.returned (.tuple #[.agg #[.string (findR t p).1.name,.int .u8 (findR t p).1.kind,.string (findR t p).1.data,.slice A' (findR t p).1.files.length c'],.int .i64 (findR t p).2])∧(findR t p).1.files.length≤c'∧FileK.C w A' (findR t p).1.files.length (findR t p).1.files∧Below w.heap.size w w':=by
 have HP:=Lib.hid hp
 have h2:=two_boxes w (fc t A c) zC 25 25
 have hb2:=(below_alloc (Below.refl w.heap.size w) (.cells (fc t A c) 25)).alloc (by simp) (.cells zC 25)
 obtain ⟨R,hR⟩:∃ R,findR t p=R:=⟨_,rfl⟩
 rw [hR]
 have HRR:=Lib.hid hR
 have HC0:=Lib.hid hr
 clear hp hR hr
 go_enter Tryz.func56,Tryz.ntmps56
 unfold fileV
 go_wp2_with fail
 generalize (w.alloc (.cells (fc t A c) 25)).alloc (.cells zC 25)=W2 at *
 go_loopw [13] (fun vi wr=>∃ (k:Nat) (y:File) (A1:Option Addr) (c1:Nat),k≤p.length∧vi=.int .i64 k∧Below w.heap.size w wr∧Hid (wr.heap[w.heap.size]? = some (.cells (fc y A1 c1) 25 (0,0)))∧Hid (wr.heap[w.heap.size+1]? = some (.cells zC 25 (0,0)))∧y.files.length≤c1∧Hid (FileK.C w A1 y.files.length y.files)∧y.bulk≤t.bulk∧Hid (findR y (p.drop k)=R)) (fun vi _=>p.length - (RowKit.intOf vi).toNat)
 case atStart=>exact ⟨0,t,A,c,by omega,rfl,hb2,Lib.hid h2.1,Lib.hid h2.2,hc,HC0,Nat.le_refl _,HRR⟩
 case round =>
  obtain ⟨k,y,A1,c1,hk,rfl,hb,HX,HZ,hc1,HC,hyb,HG⟩:=hrel
  have hsz:=blk_lt HZ.out
  have y1:=cell_of (j:=1) HX.out rfl
  have y3:=cell_of (j:=3) HX.out rfl
  by_cases hlt:k<p.length
  ·obtain ⟨pad,rfl,hx⟩:=Kd.at_string HP.out (k:Int) (by omega) (by omega)
   rw [Int.toNat_natCast] at hx
   have he:rdOf ByteArray.empty p (k:Int)=p[k]:=by simp [rdOf,hlt]
   rw [he] at hx
   have hx':=(hb.cell (World.block_lt_of_cell? w _ hx)).trans hx
   have hdr:p.drop k=p[k] :: p.drop (k+1):=List.drop_eq_getElem_cons hlt
   have hgo:=HG.out
   rw [hdr,findR] at hgo
   clear he hx hdr HG
   generalize p[k]=n at *
   have g1:(k:Int)<(p.length:Int):=by omega
   by_cases hk1:y.kind=1
   ·rw [if_pos hk1] at hgo
    have hye:=bulk_eq y
    have hyl:=bulkL_len y.files
    have hyn:y.files.length≤1099511627776:=by omega
    have HGO:=Lib.hid hgo
    clear hgo hye hyl
    go_wp2_with fail
    rename World=>wo
    go_loopw [8,24] (fun vt vj wi=>∃ m:Nat,m≤y.files.length∧vt=.bool false∧vj=.int .i64 m∧Below wo.heap.size wo wi∧Hid (∀ i (hi:i<y.files.length),i<m→nameIs n y.files[i]=false)) (fun _ vj _=>y.files.length - (RowKit.intOf vj).toNat)
    case atStart=>exact ⟨0,by omega,rfl,rfl,Below.refl _ _,Lib.hid fun _ _ h=>by omega⟩
    case round =>
     obtain ⟨m,hm,rfl,rfl,hbi,HNO⟩:=hrel
     have hbw:=bstep hb hb.size hbi
     by_cases hml:m<y.files.length
     ·obtain ⟨fad,A',c',rfl,p1,p2,p3,p4,hc',hC'⟩:=file_at HC.out m hml
      have mv:∀ {p:Addr} {v:Value},w.cell? p=some v→wr.cell? p=some v:=fun h=>(hbw.cell (World.block_lt_of_cell? w _ h)).trans h
      have p1':=mv p1
      have p2':=mv p2
      have p3':=mv p3
      have p4':=mv p4
      have hmb:=bulk_child (List.getElem_mem hml)
      have HFA:Hid (nameIs n y.files[m]=true→y.files.find? (nameIs n)=some y.files[m]):=Lib.hid (rf_at hml HNO.out)
      have HNX:Hid (nameIs n y.files[m]=false→∀ i (hi:i<y.files.length),i<m+1→nameIs n y.files[i]=false):=Lib.hid (fun h i hi hj=>by
       by_cases hjm:i<m
       ·exact HNO.out i hi hjm
       ·obtain rfl:i=m:=by omega
        exact h)
      have HX':=Lib.hid hC'
      clear p1 p2 p3 p4 mv hC' HNO
      generalize y.files[m]=x at *
      have g2:(m:Int)<(y.files.length:Int):=by omega
      have hXi:=(hbi.block w.heap.size (by omega)).trans HX.out
      have hZi:=(hbi.block (w.heap.size+1) hsz).trans HZ.out
      have hba:=below_alloc (Below.refl wr.heap.size wr) (.cells (fc x A' c') 25)
      have hXa:=(hba.block w.heap.size (by have:=blk_lt hXi;omega)).trans hXi
      have hZa:=(hba.block (w.heap.size+1) (by have:=blk_lt hZi;omega)).trans hZi
      have hna:=blk_new wr (.cells (fc x A' c') 25)
      have hbwa:=bstep hbw hbw.size hba
      have f0:=unfr hXa 0
      have f1:=unfr hXa 1
      have f2:=unfr hXa 2
      have f3:=unfr hXa 3
      obtain ⟨x0,x1,x2,x3⟩:=c4A hXa
      cases hnm:nameIs n x
      ·have HNN:=Lib.hid (HNX.out hnm)
       have q1:(x.name.toList == n.toList)=false:=hnm
       clear HNX HFA x0 x1 x2 x3 f0 f1 f2 f3 hnm
       go_wp2_with fail
       go_roundw
       case rel=>exact ⟨m+1,by omega,rfl,by go_num,bstep hbi hbi.size hba,HNN⟩
       case measure=>simp [RowKit.intOf];omega
      ·have hfa:=HFA.out hnm
       have hgo:=HGO.out
       rw [hfa] at hgo
       simp only at hgo
       have HGN:=Lib.hid hgo
       have q1:(x.name.toList == n.toList)=true:=hnm
       have HH:=Lib.hid (store4_box hXa (.string x.name) (.int .u8 x.kind) (.string x.data) (.slice A' x.files.length c'))
       have HZ2:=Lib.hid ((store4_other _ (show w.heap.size+1≠w.heap.size by omega) (.string x.name) (.int .u8 x.kind) (.string x.data) (.slice A' x.files.length c')).trans hZa)
       have HBL:=Lib.hid (store4_below hbwa (Nat.le_refl w.heap.size) (.string x.name) (.int .u8 x.kind) (.string x.data) (.slice A' x.files.length c'))
       clear HNX HFA HGO hnm hfa hgo
       go_wp2_with fail
       go_roundw
       case rel=>exact ⟨k+1,x,A',c',by omega,by go_num,HBL.out,HH,HZ2,hc',HX',by omega,HGN⟩
       case measure=>simp [RowKit.intOf];omega
     ·obtain rfl:m=y.files.length:=by omega
      have hfn:=rf_none fun i hi=>HNO.out i hi hi
      have hgo:=HGO.out
      rw [hfn] at hgo
      simp only at hgo
      subst hgo
      have hZi:=(hbi.block (w.heap.size+1) hsz).trans HZ.out
      have HH:=Lib.hid (store4_box hZi (.string ⟨#[]⟩) (.int .u8 0) (.string ⟨#[]⟩) (.slice none 0 0))
      have HBL:=Lib.hid (store4_below hbw (Nat.le_succ w.heap.size) (.string ⟨#[]⟩) (.int .u8 0) (.string ⟨#[]⟩) (.slice none 0 0))
      have f0:=unfr hZi 0
      have f1:=unfr hZi 1
      have f2:=unfr hZi 2
      have f3:=unfr hZi 3
      obtain ⟨z0,z1,z2,z3⟩:=c4A hZi
      clear HGO HNO hfn
      go_wp2_with fail
      refine bodyPost_ret (results_ct rfl _ _ (w.heap.size+1) 25 zC (0,0) _ rfl HH.out Tryz.underlying25 rfl (by kernel_rfl)) rfl ?_
      exact ⟨none,0,rfl,Nat.le_refl 0,Kd.C_nil FileK _,HBL.out⟩
   ·rw [if_neg hk1] at hgo
    subst hgo
    have k1:(y.kind != 1)=true:=by rw [bne_iff_ne];exact hk1
    have HH:=Lib.hid (store4_box HZ.out (.string ⟨#[]⟩) (.int .u8 0) (.string ⟨#[]⟩) (.slice none 0 0))
    have HBL:=Lib.hid (store4_below hb (Nat.le_succ w.heap.size) (.string ⟨#[]⟩) (.int .u8 0) (.string ⟨#[]⟩) (.slice none 0 0))
    have f0:=unfr HZ.out 0
    have f1:=unfr HZ.out 1
    have f2:=unfr HZ.out 2
    have f3:=unfr HZ.out 3
    obtain ⟨z0,z1,z2,z3⟩:=c4A HZ.out
    go_wp2_with fail
    refine bodyPost_ret (results_ct rfl _ _ (w.heap.size+1) 25 zC (0,0) _ rfl HH.out Tryz.underlying25 rfl (by kernel_rfl)) rfl ?_
    exact ⟨none,0,rfl,Nat.le_refl 0,Kd.C_nil FileK _,HBL.out⟩
  ·obtain rfl:k=p.length:=by omega
   have hgo:=HG.out
   rw [List.drop_length,findR] at hgo
   subst hgo
   have HH:=Lib.hid (store4_box HZ.out (.string y.name) (.int .u8 y.kind) (.string y.data) (.slice A1 y.files.length c1))
   have HBL:=Lib.hid (store4_below hb (Nat.le_succ w.heap.size) (.string y.name) (.int .u8 y.kind) (.string y.data) (.slice A1 y.files.length c1))
   have y0:=cell_of (j:=0) HX.out rfl
   have y2:=cell_of (j:=2) HX.out rfl
   have f0:=unfr HZ.out 0
   have f1:=unfr HZ.out 1
   have f2:=unfr HZ.out 2
   have f3:=unfr HZ.out 3
   obtain ⟨z0,z1,z2,z3⟩:=c4A HZ.out
   go_wp2_with fail
   refine bodyPost_ret (results_ct rfl _ _ (w.heap.size+1) 25 (fc y A1 c1) (0,0) _ rfl HH.out Tryz.underlying25 rfl (by kernel_rfl)) rfl ?_
   exact ⟨A1,c1,rfl,hc1,HC.out,HBL.out⟩
end Go.Proofs.YtdnhjnlhmfajnaaGreatDoor.G
