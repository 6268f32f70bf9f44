import Derived.Test.YtdnhjnlhmfajnaaGreatDoorSq
import Derived.Test.YtdnhjnlhmfajnaaGreatDoorTBelow
set_option linter.unusedVariables false
set_option linter.unusedSimpArgs false
section
namespace Go.Proofs.YtdnhjnlhmfajnaaGreatDoor.G
open Go.RowKit Go.Lib Go.Proofs.YtdnhjnlhmfajnaaGreatDoorW.PrintWords Go.Proofs.YtdnhjnlhmfajnaaGreatDoorW.PrintLast
set_option linter.unusedVariables false
set_option linter.unusedSimpArgs false
def tr (n k:Nat):Array Bool:=((List.range n).map (fun j=>decide (j<k))).toArray
def geB (y z:ByteArray):Bool := !Op.bytesLess y.toList z.toList
def prevGe:Option ByteArray→ByteArray→Bool
 | none,_=>false
 | some y,z=>geB y z
def badF (prev:Option ByteArray) (q:List ByteArray) (x:File):Bool := !nameB x.name.data.toList || prevGe prev x.name || decide (64<q.length) || !aloneB x
def wrongL (rec:File→List ByteArray→Option (List ByteArray)) (p:List ByteArray):Option ByteArray→List File→Option (List ByteArray)
 | _,[]=>none
 | prev,x :: l=>if badF prev (p++[x.name]) x=true then some (p++[x.name]) else match rec x (p++[x.name]) with
  | some b=>some b
  | none=>wrongL rec p (some x.name) l
def wrongN:Nat→File→List ByteArray→Option (List ByteArray)
 | 0=>fun _ _=>none
 | n+1=>fun f p=>wrongL (wrongN n) p none f.files
def prevAt (l:List File):Nat→Option ByteArray
 | 0=>none
 | k+1=>(l[k]?).map File.name
theorem prev_succ {l:List File} {k:Nat} (h:k<l.length):prevAt l (k+1)=some l[k].name:=by simp [prevAt,h]
set_option maxHeartbeats 16000000 in
set_option maxRecDepth 100000 in
theorem wrong_calls:∀ (n:Nat) (f:File) (A:Option Addr) (c:Nat) (B:Option Addr) (d:Nat) (p:List ByteArray) (w:World),f.bulk≤n→f.bulk≤1099511627776→p.length+n≤2199023255552→FileK.C w A f.files.length f.files→f.files.length≤c→Kd.C Kd.string w B p.length p→p.length≤d →
  Calls Tryz.prog 98 #[fileV f A c,.slice B p.length d] w fun e w'=>∃ v,e=.returned (.tuple #[v,.bool (wrongN n f p).isSome])∧Kd.R Kd.string 9 w' w.heap.size (fun _=>True) v ((wrongN n f p).getD [])∧Below w.heap.size w w':=by
 intro n
 induction n with
 | zero=>intro f A c B d p w h;have:=bulk_eq f;omega
 | succ n ih =>
 intro f A c B d p w hn hbk hpl hr hc hs hd
 have HI:=Lib.hid (fun (x:File) A c B d p W h1 h2 h3=>ih x A c B d p W h1 h2 h3)
 clear ih
 have hlen:=bulkL_len f.files
 have hbe:=bulk_eq f
 have HR:=Lib.hid hr
 have HS:=Lib.hid hs
 clear hr hs
 have HN':∀ x∈f.files,x.bulk≤n∧x.bulk≤1099511627776:=fun x hx=>by have:=bulk_child hx;omega
 have hal':f.files.length≤1099511627776:=by omega
 obtain ⟨fn,fk,fd,af⟩:=f
 change af.length≤c at hc
 change Hid (FileK.C w A af.length af) at HR
 have hal:af.length≤1099511627776:=hal'
 have HN:Hid (∀ x∈af,x.bulk≤n∧x.bulk≤1099511627776):=Lib.hid HN'
 have hpl2:p.length≤2199023255552:=by omega
 have HPL:=Lib.hid hpl
 clear hbe hlen hn hbk hal' HN' hpl
 obtain ⟨res,hres⟩:∃ res,wrongN (n+1) ⟨fn,fk,fd,af⟩ p=res:=⟨_,rfl⟩
 rw [hres]
 have HRES:Hid (wrongL (wrongN n) p none af=res):=Lib.hid hres
 clear hres
 go_enter Tryz.func98,Tryz.ntmps98
 unfold fileV
 go_wp2_with fail
 go_loopw [14] (fun i wr=>∃ k:Nat,k≤af.length∧i=.int .i64 k∧Below w.heap.size w wr∧wr.cell? ⟨w.heap.size,3,none⟩=some (.slice A af.length c)∧w.heap.size+1≤wr.heap.size∧Hid (wrongL (wrongN n) p (prevAt af k) (af.drop k)=res)) (fun i _=>af.length - (RowKit.intOf i).toNat)
 case atStart=>exact ⟨0,by omega,rfl,(Below.refl _ _).alloc (Nat.le_refl _) _,cell_of (blk_new w _) rfl,by simp,HRES⟩
 case round =>
  clear HRES
  obtain ⟨k,hk,rfl,hb,hfx,hsz,HRES⟩:=hrel
  by_cases hlt:k<af.length
  ·obtain ⟨aad,A',c',rfl,p1,p2,p3,p4,hc',hC'⟩:=file_at HR.out k hlt
   have mv:∀ {p:Addr} {v:Value},w.cell? p=some v→wr.cell? p=some v:=fun h=>(hb.cell (World.block_lt_of_cell? w _ h)).trans h
   have p1':=mv p1
   have p2':=mv p2
   have p3':=mv p3
   have p4':=mv p4
   have hmem:=HN.out _ (List.getElem_mem hlt)
   have hdr:af.drop k=af[k] :: af.drop (k+1):=List.drop_eq_getElem_cons hlt
   have hps:=prev_succ hlt
   have hrs:=HRES.out
   rw [hdr] at hrs
   have HST:Hid ((badF (prevAt af k) (p++[af[k].name]) af[k]=true→some (p++[af[k].name])=res)∧(badF (prevAt af k) (p++[af[k].name]) af[k]=false→∀ b,wrongN n af[k] (p++[af[k].name])=some b→some b=res)∧(badF (prevAt af k) (p++[af[k].name]) af[k]=false→wrongN n af[k] (p++[af[k].name])=none→wrongL (wrongN n) p (prevAt af (k+1)) (af.drop (k+1))=res)):=Lib.hid (by
    unfold wrongL at hrs
    refine ⟨fun h => ?_,fun h b hb => ?_,fun h hb => ?_⟩
    ·rw [if_pos h] at hrs;exact hrs
    ·rw [if_neg (by rw [h];simp),hb] at hrs;exact hrs
    ·rw [if_neg (by rw [h];simp),hb] at hrs;rw [hps];exact hrs)
   have hbW:=fun W (h:Below wr.heap.size wr W)=>hb.trans (h.mono hb.size)
   have HC:=Lib.hid (fun W (h:Below wr.heap.size wr W) Q dq (q:List ByteArray) hql hq hqd=>(show Calls Tryz.prog 98 #[.agg #[.string af[k].name,.int .u8 af[k].kind,.string af[k].data,.slice A' af[k].files.length c'],.slice Q q.length dq] W _ from HI.out af[k] A' c' Q dq q W hmem.1 hmem.2 hql (Kd.C_below hC' (hbW W h)) hc' hq hqd))
   have HB:=Lib.hid (fun W (h:Below wr.heap.size wr W)=>below_calls B d p af[k].name W (Kd.C_below HS.out (hbW W h)) hd (by omega))
   have HNM:=Lib.hid (fun W=>(name_calls af[k].name W).mono (R':=fun e w'=>e=.returned (.bool (nameB af[k].name.data.toList))∧Below W.heap.size W w') fun e w' ⟨he,h⟩=>⟨he,h⟩)
   have HAL:=Lib.hid (fun W=>(show Calls Tryz.prog 126 #[.agg #[.string af[k].name,.int .u8 af[k].kind,.string af[k].data,.slice A' af[k].files.length c']] W _ from alone_calls af[k] A' c' W))
   have HPV:Hid (∀ m,k=m+1→∃ y,prevAt af k=some y∧∀ W,Below w.heap.size w W→W.cell? (aad.add (m * 4))=some (.string y)):=Lib.hid (by
    intro m hm
    subst hm
    have hm2:m<af.length:=by omega
    obtain ⟨ad2,A2,c2,e2,q1,_⟩:=file_at HR.out m hm2
    injection e2 with e2
    subst e2
    exact ⟨af[m].name,prev_succ hm2,fun W h=>(h.cell (World.block_lt_of_cell? w _ q1)).trans q1⟩)
   have HPZ:Hid (k=0→prevAt af k=none):=Lib.hid (fun h=>by subst h;rfl)
   clear p1 p2 p3 p4 mv hmem hC' hdr hps hrs hbW
   generalize prevAt af k=pv at *
   generalize af[k]=x at *
   have g1:(k:Int)<(af.length:Int):=by omega
   have hnew:=blk_new wr (.cells (fc x A' c') 25)
   have hbx:=below_alloc (Below.refl wr.heap.size wr) (.cells (fc x A' c') 25)
   have hsX:(wr.alloc (.cells (fc x A' c') 25)).heap.size=wr.heap.size+1:=by simp
   go_wp2_with fail
   refine (HB.out _ hbx).mono ?_
   rintro e w1 ⟨v1,rfl,ho1,hb1⟩
   generalize wr.alloc (.cells (fc x A' c') 25)=W0 at *
   have hb1r:Below wr.heap.size wr w1:=hbx.trans (hb1.mono (by omega))
   have hs1:=hb1.size
   obtain ⟨q,hq⟩:∃ q,q=p++[x.name]:=⟨_,rfl⟩
   rw [← hq] at ho1 HST
   have hql:q.length=p.length+1:=by rw [hq];simp
   have HQL:=Lib.hid hql
   clear hq hql
   obtain ⟨Q,cq,rfl,hcq,hCq⟩:=Kd.R_reads ho1
   have HQ:=Lib.hid (Kd.R_mono (Kd.R_bound ho1) (ok':=fun j=>W0.heap.size≤j) fun j hj=>hj.2.1)
   have HP:Hid (∀ W,Below w1.heap.size w1 W→W.cell? ⟨w.heap.size,3,none⟩=some (.slice (some aad) af.length c)∧W.cell? ⟨wr.heap.size,0,none⟩=some (.string x.name)∧W.cell? ⟨wr.heap.size,1,none⟩=some (.int .u8 x.kind)∧W.cell? ⟨wr.heap.size,2,none⟩=some (.string x.data)∧W.cell? ⟨wr.heap.size,3,none⟩=some (.slice A' x.files.length c')):=Lib.hid (by
    intro W h
    have h1:=hb1r.trans (h.mono (by omega))
    have hX:=((h.block wr.heap.size (by omega)).trans (hb1.block wr.heap.size (by omega))).trans hnew
    exact ⟨(h1.cell (p:=⟨w.heap.size,3,none⟩) (by simp only;omega)).trans hfx,cell_of hX rfl,cell_of hX rfl,cell_of hX rfl,cell_of hX rfl⟩)
   have HCQ:=Lib.hid hCq
   clear ho1 hCq hnew p1' p2' p3' p4' HB
   have HFIN:Hid (∀ W,Below w1.heap.size w1 W→Below wr.heap.size wr W∧Below w.heap.size w W∧Kd.R Kd.string 9 W w.heap.size (fun _=>True) (.slice Q q.length cq) q∧Kd.C Kd.string W Q q.length q):=Lib.hid (by
    intro W h
    have h1:=hb1r.trans (h.mono (by omega))
    exact ⟨h1,hb.trans (h1.mono hb.size),Kd.R_mono (Kd.R_lower (Kd.R_below HQ.out h) (by omega)) (fun _ _=>trivial),Kd.C_below HCQ.out h⟩)
   have h11:=Below.refl w1.heap.size w1
   have hxq:Hid (p.length+1+n≤2199023255552):=Lib.hid (by have:=HPL.out;omega)
   clear HCQ HQ hbx hsX
   have HBF:=Lib.hid (show badF pv q x=(!nameB x.name.data.toList || prevGe pv x.name || decide (64<q.length) || !aloneB x) from rfl)
   generalize nameB x.name.data.toList=nb at *
   generalize aloneB x=al at *
   obtain ⟨y0,y1,y2,y3,y4⟩:=HP.out w1 h11
   cases nb
   ·have hbad:badF pv q x=true:=by rw [HBF.out];simp
    clear HAL HC
    go_wp2_with fail
    refine start_ (n:=30) (S:=fun w'=>w'.cell? ⟨w.heap.size,3,none⟩=some (.slice (some aad) af.length c)∧w'.cell? ⟨wr.heap.size,0,none⟩=some (.string x.name)∧w'.cell? ⟨wr.heap.size,1,none⟩=some (.int .u8 x.kind)∧w'.cell? ⟨wr.heap.size,2,none⟩=some (.string x.data)∧w'.cell? ⟨wr.heap.size,3,none⟩=some (.slice A' x.files.length c')) (ds:=[]) (tr 30 0) (by kernel_rfl) rfl rfl ⟨y0,y1,y2,y3,y4⟩ (fun hHeld => ?_)
    refine pA 0 23 (tr 30 1) ?_
    refine tA 1 24 (tr 30 2) hHeld ?_ (hy:=by
     rintro w' ⟨s0,s1,s2,s3,s4⟩
     go_simp
     with_reducible rfl)
    refine one_ (i:=2) (N:=some 25) (tr 30 3) rfl rfl (by kernel_rfl) (by simp) (fun K hK => ?_)
    refine gA Tryz.func91 #[.string x.name] ?_
    refine (HNM.out _).mono ?_
    rintro e w2 ⟨rfl,hb2'⟩
    refine ⟨_,rfl,?_⟩
    have hb2:Below w1.heap.size w1 w2:=(bdrew h11).trans hb2'
    clear hb2' hHeld
    obtain ⟨z0,z1,z2,z3,z4⟩:=HP.out w2 hb2
    refine hK.out _ _ ⟨z0,z1,z2,z3,z4⟩ (fun hHeld => ?_)
    refine nA 25 ?_
    refine pA 3 26 (tr 30 4) ?_
    refine pA 4 27 (tr 30 5) ?_
    refine oA 5 28 (tr 30 6) ?_
    refine oA 6 29 (tr 30 7) ?_
    refine oA 7 30 (tr 30 8) ?_
    refine oA 8 31 (tr 30 9) ?_
    refine oA 9 32 (tr 30 10) ?_
    refine oA 10 33 (tr 30 11) ?_
    refine oA 11 34 (tr 30 12) ?_
    refine oA 12 35 (tr 30 13) ?_
    refine oA 13 36 (tr 30 14) ?_
    refine oA 14 37 (tr 30 15) ?_
    refine oA 15 38 (tr 30 16) ?_
    refine oA 16 39 (tr 30 17) ?_
    refine oA 17 40 (tr 30 18) ?_
    refine oA 18 41 (tr 30 19) ?_
    refine pA 19 42 (tr 30 20) ?_
    refine pA 20 43 (tr 30 21) ?_
    refine oA 21 44 (tr 30 22) ?_
    refine oA 22 45 (tr 30 23) ?_
    refine oA 23 46 (tr 30 24) ?_
    refine pA 24 47 (tr 30 25) ?_
    refine pA 25 48 (tr 30 26) ?_
    refine oA 26 49 (tr 30 27) ?_
    refine oA 27 50 (tr 30 28) ?_
    refine oA 28 51 (tr 30 29) ?_
    refine pA 29 52 (tr 30 30) ?_
    refine done_ (by kernel_rfl) ?_
    clear hHeld
    obtain ⟨j1,j2,j3,j4⟩:=HFIN.out _ hb2
    have hr1:=HST.out.1 hbad
    subst hr1
    go_wp2_with fail
    go_ret2
    exact ⟨_,rfl,j3,j2⟩
   ·rcases Nat.eq_zero_or_pos k with hk0 | hk0
    ·subst hk0
     have hpv:=HPZ.out rfl
     subst hpv
     clear HPV HPZ
     by_cases hlq:64<q.length
     ·have l1:decide ((q.length:Int) > 64)=true:=decide_eq_true (by omega)
      have l2:(64:Int)<(q.length:Int):=by omega
      have l3:decide ((64:Int)<(q.length:Int))=true:=decide_eq_true l2
      have hbad:badF none q x=true:=by rw [HBF.out];simp [hlq]
      clear HAL HC hlq
      go_wp2_with fail
      refine start_ (n:=30) (S:=fun w'=>w'.cell? ⟨w.heap.size,3,none⟩=some (.slice (some aad) af.length c)∧w'.cell? ⟨wr.heap.size,0,none⟩=some (.string x.name)∧w'.cell? ⟨wr.heap.size,1,none⟩=some (.int .u8 x.kind)∧w'.cell? ⟨wr.heap.size,2,none⟩=some (.string x.data)∧w'.cell? ⟨wr.heap.size,3,none⟩=some (.slice A' x.files.length c')) (ds:=[]) (tr 30 0) (by kernel_rfl) rfl rfl ⟨y0,y1,y2,y3,y4⟩ (fun hHeld => ?_)
      refine pA 0 23 (tr 30 1) ?_
      refine tA 1 24 (tr 30 2) hHeld ?_ (hy:=by
       rintro w' ⟨s0,s1,s2,s3,s4⟩
       go_simp
       with_reducible rfl)
      refine one_ (i:=2) (N:=some 25) (tr 30 3) rfl rfl (by kernel_rfl) (by simp) (fun K hK => ?_)
      refine gA Tryz.func91 #[.string x.name] ?_
      refine (HNM.out _).mono ?_
      rintro e w2 ⟨rfl,hb2'⟩
      refine ⟨_,rfl,?_⟩
      have hb2:Below w1.heap.size w1 w2:=(bdrew h11).trans hb2'
      clear hb2' hHeld
      obtain ⟨z0,z1,z2,z3,z4⟩:=HP.out w2 hb2
      refine hK.out _ _ ⟨z0,z1,z2,z3,z4⟩ (fun hHeld => ?_)
      refine nA 25 ?_
      refine pA 3 26 (tr 30 4) ?_
      refine pA 4 27 (tr 30 5) ?_
      refine pA 5 28 (tr 30 6) ?_
      refine pA 6 29 (tr 30 7) ?_
      refine pA 7 30 (tr 30 8) ?_
      refine oA 8 31 (tr 30 9) ?_
      refine oA 9 32 (tr 30 10) ?_
      refine oA 10 33 (tr 30 11) ?_
      refine oA 11 34 (tr 30 12) ?_
      refine oA 12 35 (tr 30 13) ?_
      refine oA 13 36 (tr 30 14) ?_
      refine oA 14 37 (tr 30 15) ?_
      refine oA 15 38 (tr 30 16) ?_
      refine oA 16 39 (tr 30 17) ?_
      refine oA 17 40 (tr 30 18) ?_
      refine pA 18 41 (tr 30 19) ?_
      refine pA 19 42 (tr 30 20) ?_
      refine pA 20 43 (tr 30 21) ?_
      refine pA 21 44 (tr 30 22) ?_
      refine pA 22 45 (tr 30 23) ?_
      refine pA 23 46 (tr 30 24) ?_
      refine pA 24 47 (tr 30 25) ?_
      refine pA 25 48 (tr 30 26) ?_
      refine oA 26 49 (tr 30 27) ?_
      refine oA 27 50 (tr 30 28) ?_
      refine oA 28 51 (tr 30 29) ?_
      refine pA 29 52 (tr 30 30) ?_
      refine done_ (by kernel_rfl) ?_
      clear hHeld
      obtain ⟨j1,j2,j3,j4⟩:=HFIN.out _ hb2
      have hr1:=HST.out.1 hbad
      subst hr1
      go_wp2_with fail
      go_ret2
      exact ⟨_,rfl,j3,j2⟩
     ·have l1:decide ((q.length:Int) > 64)=false:=decide_eq_false (by omega)
      have l2:¬ (64:Int)<(q.length:Int):=by omega
      have l3:decide ((64:Int)<(q.length:Int))=false:=decide_eq_false l2
      cases al
      ·have hbad:badF none q x=true:=by rw [HBF.out];simp
       clear HC
       go_wp2_with fail
       refine start_ (n:=30) (S:=fun w'=>w'.cell? ⟨w.heap.size,3,none⟩=some (.slice (some aad) af.length c)∧w'.cell? ⟨wr.heap.size,0,none⟩=some (.string x.name)∧w'.cell? ⟨wr.heap.size,1,none⟩=some (.int .u8 x.kind)∧w'.cell? ⟨wr.heap.size,2,none⟩=some (.string x.data)∧w'.cell? ⟨wr.heap.size,3,none⟩=some (.slice A' x.files.length c')) (ds:=[]) (tr 30 0) (by kernel_rfl) rfl rfl ⟨y0,y1,y2,y3,y4⟩ (fun hHeld => ?_)
       refine pA 0 23 (tr 30 1) ?_
       refine tA 1 24 (tr 30 2) hHeld ?_ (hy:=by
        rintro w' ⟨s0,s1,s2,s3,s4⟩
        go_simp
        with_reducible rfl)
       refine one_ (i:=2) (N:=some 25) (tr 30 3) rfl rfl (by kernel_rfl) (by simp) (fun K hK => ?_)
       refine gA Tryz.func91 #[.string x.name] ?_
       refine (HNM.out _).mono ?_
       rintro e w2 ⟨rfl,hb2'⟩
       refine ⟨_,rfl,?_⟩
       have hb2:Below w1.heap.size w1 w2:=(bdrew h11).trans hb2'
       clear hb2' hHeld
       obtain ⟨z0,z1,z2,z3,z4⟩:=HP.out w2 hb2
       refine hK.out _ _ ⟨z0,z1,z2,z3,z4⟩ (fun hHeld => ?_)
       refine nA 25 ?_
       refine pA 3 26 (tr 30 4) ?_
       refine pA 4 27 (tr 30 5) ?_
       refine pA 5 28 (tr 30 6) ?_
       refine pA 6 29 (tr 30 7) ?_
       refine pA 7 30 (tr 30 8) ?_
       refine oA 8 31 (tr 30 9) ?_
       refine oA 9 32 (tr 30 10) ?_
       refine oA 10 33 (tr 30 11) ?_
       refine oA 11 34 (tr 30 12) ?_
       refine oA 12 35 (tr 30 13) ?_
       refine oA 13 36 (tr 30 14) ?_
       refine oA 14 37 (tr 30 15) ?_
       refine oA 15 38 (tr 30 16) ?_
       refine oA 16 39 (tr 30 17) ?_
       refine oA 17 40 (tr 30 18) ?_
       refine pA 18 41 (tr 30 19) ?_
       refine pA 19 42 (tr 30 20) ?_
       refine pA 20 43 (tr 30 21) ?_
       refine pA 21 44 (tr 30 22) ?_
       refine pA 22 45 (tr 30 23) ?_
       refine pA 23 46 (tr 30 24) ?_
       refine pA 24 47 (tr 30 25) ?_
       refine pA 25 48 (tr 30 26) ?_
       refine tA 26 49 (tr 30 27) hHeld ?_ (hy:=by
        rintro w' ⟨s0,s1,s2,s3,s4⟩
        go_simp
        with_reducible rfl)
       refine one_ (i:=27) (N:=some 50) (tr 30 28) rfl rfl (by kernel_rfl) (by simp) (fun K hK => ?_)
       refine gA Tryz.func126 #[.agg (fc x A' c')] ?_
       refine (HAL.out _).mono ?_
       rintro e w3 ⟨rfl,hb3'⟩
       refine ⟨_,rfl,?_⟩
       have hb3:Below w1.heap.size w1 w3:=hb2.trans (hb3'.mono hb2.size)
       clear hb3' z0 z1 z2 z3 z4 hHeld
       obtain ⟨z0,z1,z2,z3,z4⟩:=HP.out w3 hb3
       refine hK.out _ _ ⟨z0,z1,z2,z3,z4⟩ (fun hHeld => ?_)
       refine nA 50 ?_
       refine pA 28 51 (tr 30 29) ?_
       refine pA 29 52 (tr 30 30) ?_
       refine done_ (by kernel_rfl) ?_
       clear hHeld
       obtain ⟨j1,j2,j3,j4⟩:=HFIN.out _ hb3
       have hr1:=HST.out.1 hbad
       subst hr1
       go_wp2_with fail
       go_ret2
       exact ⟨_,rfl,j3,j2⟩
      ·have hbad:badF none q x=false:=by rw [HBF.out];simp [hlq,prevGe]
       go_wp2_with fail
       refine start_ (n:=30) (S:=fun w'=>w'.cell? ⟨w.heap.size,3,none⟩=some (.slice (some aad) af.length c)∧w'.cell? ⟨wr.heap.size,0,none⟩=some (.string x.name)∧w'.cell? ⟨wr.heap.size,1,none⟩=some (.int .u8 x.kind)∧w'.cell? ⟨wr.heap.size,2,none⟩=some (.string x.data)∧w'.cell? ⟨wr.heap.size,3,none⟩=some (.slice A' x.files.length c')) (ds:=[]) (tr 30 0) (by kernel_rfl) rfl rfl ⟨y0,y1,y2,y3,y4⟩ (fun hHeld => ?_)
       refine pA 0 23 (tr 30 1) ?_
       refine tA 1 24 (tr 30 2) hHeld ?_ (hy:=by
        rintro w' ⟨s0,s1,s2,s3,s4⟩
        go_simp
        with_reducible rfl)
       refine one_ (i:=2) (N:=some 25) (tr 30 3) rfl rfl (by kernel_rfl) (by simp) (fun K hK => ?_)
       refine gA Tryz.func91 #[.string x.name] ?_
       refine (HNM.out _).mono ?_
       rintro e w2 ⟨rfl,hb2'⟩
       refine ⟨_,rfl,?_⟩
       have hb2:Below w1.heap.size w1 w2:=(bdrew h11).trans hb2'
       clear hb2' hHeld
       obtain ⟨z0,z1,z2,z3,z4⟩:=HP.out w2 hb2
       refine hK.out _ _ ⟨z0,z1,z2,z3,z4⟩ (fun hHeld => ?_)
       refine nA 25 ?_
       refine pA 3 26 (tr 30 4) ?_
       refine pA 4 27 (tr 30 5) ?_
       refine pA 5 28 (tr 30 6) ?_
       refine pA 6 29 (tr 30 7) ?_
       refine pA 7 30 (tr 30 8) ?_
       refine oA 8 31 (tr 30 9) ?_
       refine oA 9 32 (tr 30 10) ?_
       refine oA 10 33 (tr 30 11) ?_
       refine oA 11 34 (tr 30 12) ?_
       refine oA 12 35 (tr 30 13) ?_
       refine oA 13 36 (tr 30 14) ?_
       refine oA 14 37 (tr 30 15) ?_
       refine oA 15 38 (tr 30 16) ?_
       refine oA 16 39 (tr 30 17) ?_
       refine oA 17 40 (tr 30 18) ?_
       refine pA 18 41 (tr 30 19) ?_
       refine pA 19 42 (tr 30 20) ?_
       refine pA 20 43 (tr 30 21) ?_
       refine pA 21 44 (tr 30 22) ?_
       refine pA 22 45 (tr 30 23) ?_
       refine pA 23 46 (tr 30 24) ?_
       refine pA 24 47 (tr 30 25) ?_
       refine pA 25 48 (tr 30 26) ?_
       refine tA 26 49 (tr 30 27) hHeld ?_ (hy:=by
        rintro w' ⟨s0,s1,s2,s3,s4⟩
        go_simp
        with_reducible rfl)
       refine one_ (i:=27) (N:=some 50) (tr 30 28) rfl rfl (by kernel_rfl) (by simp) (fun K hK => ?_)
       refine gA Tryz.func126 #[.agg (fc x A' c')] ?_
       refine (HAL.out _).mono ?_
       rintro e w3 ⟨rfl,hb3'⟩
       refine ⟨_,rfl,?_⟩
       have hb3:Below w1.heap.size w1 w3:=hb2.trans (hb3'.mono hb2.size)
       clear hb3' z0 z1 z2 z3 z4 hHeld
       obtain ⟨z0,z1,z2,z3,z4⟩:=HP.out w3 hb3
       refine hK.out _ _ ⟨z0,z1,z2,z3,z4⟩ (fun hHeld => ?_)
       refine nA 50 ?_
       refine pA 28 51 (tr 30 29) ?_
       refine pA 29 52 (tr 30 30) ?_
       refine done_ (by kernel_rfl) ?_
       clear hHeld
       obtain ⟨j1,j2,j3,j4⟩:=HFIN.out _ hb3
       have HJ2:=Lib.hid j2
       have HRC:=Lib.hid (HC.out w3 j1 Q cq q (by have:=hxq.out;have:=HQL.out;omega) j4 hcq)
       have HST1:=Lib.hid (HST.out.2.1 hbad)
       have HST2:=Lib.hid (HST.out.2.2 hbad)
       clear j1 j2 j3 j4 HC HST hbad
       generalize wrongN n x q=o at *
       go_wp2_with fail
       refine HRC.out.mono ?_
       rintro e w4 ⟨v4,rfl,ho4,hb4⟩
       have hbw4:=bstep HJ2.out HJ2.out.size hb4
       have hfx4:=(hb4.cell (p:=⟨w.heap.size,3,none⟩) (World.block_lt_of_cell? _ _ z0)).trans z0
       obtain ⟨A4,c4,hv4,hc4,hC4⟩:=Kd.R_reads ho4
       have HO4:=Lib.hid (Kd.R_lower ho4 HJ2.out.size)
       have hs4:=hbw4.size
       rw [hv4] at HO4 ⊢
       have hs5:w.heap.size+1≤w4.heap.size:=by have:=World.block_lt_of_cell? _ _ hfx4;simp only at this;omega
       clear ho4 hC4 hv4 HRC z0 z1 z2 z3 z4 hb4
       cases o with
       | some b =>
        have hr1:=HST1.out b rfl
        subst hr1
        simp only [Option.isSome_some,Option.getD_some] at HO4 ⊢
        go_wp2_with fail
        go_ret2
        exact ⟨_,rfl,HO4.out,hbw4⟩
       | none =>
        have hr1:=Lib.hid (HST2.out rfl)
        simp only [Option.isSome_none,Option.getD_none] at HO4 ⊢
        go_wp2_with fail
        go_roundw
        case rel=>exact ⟨0+1,by omega,by go_num,hbw4,hfx4,hs5,hr1⟩
        case measure=>simp [RowKit.intOf];omega
    ·obtain ⟨m,rfl⟩:∃ m,k=m+1:=⟨k - 1,by omega⟩
     obtain ⟨y,hpv,hy⟩:=HPV.out m rfl
     subst hpv
     have HY:=Lib.hid hy
     have y5:=HY.out w1 (HFIN.out w1 h11).2.1
     clear HPV HPZ hy
     have m1:(0:Int)<(m:Int)+1:=by omega
     have m2:decide ((m:Int)+1 > 0)=true:=decide_eq_true (by omega)
     have m3:(m:Int)<(af.length:Int):=by omega
     have m4:IntKind.i64.wrap (m:Int)=(m:Int):=IntWalk.i64_in _ (by omega)
     have m5:decide ((0:Int)<(m:Int)+1)=true:=decide_eq_true m1
     cases hge:Op.bytesLess y.toList x.name.toList
     ·have hbad:badF (some y) q x=true:=by rw [HBF.out];simp [prevGe,geB,hge]
      clear HAL HC
      go_wp2_with fail
      refine start_ (n:=30) (S:=fun w'=>w'.cell? ⟨w.heap.size,3,none⟩=some (.slice (some aad) af.length c)∧w'.cell? ⟨wr.heap.size,0,none⟩=some (.string x.name)∧w'.cell? ⟨wr.heap.size,1,none⟩=some (.int .u8 x.kind)∧w'.cell? ⟨wr.heap.size,2,none⟩=some (.string x.data)∧w'.cell? ⟨wr.heap.size,3,none⟩=some (.slice A' x.files.length c')∧w'.cell? (aad.add (m * 4))=some (.string y)) (ds:=[]) (tr 30 0) (by kernel_rfl) rfl rfl ⟨y0,y1,y2,y3,y4,y5⟩ (fun hHeld => ?_)
      refine pA 0 23 (tr 30 1) ?_
      refine tA 1 24 (tr 30 2) hHeld ?_ (hy:=by
       rintro w' ⟨s0,s1,s2,s3,s4,s5⟩
       go_simp
       with_reducible rfl)
      refine one_ (i:=2) (N:=some 25) (tr 30 3) rfl rfl (by kernel_rfl) (by simp) (fun K hK => ?_)
      refine gA Tryz.func91 #[.string x.name] ?_
      refine (HNM.out _).mono ?_
      rintro e w2 ⟨rfl,hb2'⟩
      refine ⟨_,rfl,?_⟩
      have hb2:Below w1.heap.size w1 w2:=(bdrew h11).trans hb2'
      clear hb2' hHeld
      obtain ⟨z0,z1,z2,z3,z4⟩:=HP.out w2 hb2
      have z5:=HY.out w2 (HFIN.out w2 hb2).2.1
      refine hK.out _ _ ⟨z0,z1,z2,z3,z4,z5⟩ (fun hHeld => ?_)
      refine nA 25 ?_
      refine pA 3 26 (tr 30 4) ?_
      refine pA 4 27 (tr 30 5) ?_
      refine pA 5 28 (tr 30 6) ?_
      refine pA 6 29 (tr 30 7) ?_
      refine pA 7 30 (tr 30 8) ?_
      refine pA 8 31 (tr 30 9) ?_
      refine tA 9 32 (tr 30 10) hHeld ?_ (hy:=by
       rintro w' ⟨s0,s1,s2,s3,s4,s5⟩
       go_simp
       with_reducible rfl)
      refine pA 10 33 (tr 30 11) ?_
      refine pA 11 34 (tr 30 12) ?_
      refine pA 12 35 (tr 30 13) ?_
      refine pA 13 36 (tr 30 14) ?_
      refine tA 14 37 (tr 30 15) hHeld ?_ (hy:=by
       rintro w' ⟨s0,s1,s2,s3,s4,s5⟩
       go_simp
       with_reducible rfl)
      refine pA 15 38 (tr 30 16) ?_
      refine tA 16 39 (tr 30 17) hHeld ?_ (hy:=by
       rintro w' ⟨s0,s1,s2,s3,s4,s5⟩
       go_simp
       with_reducible rfl)
      refine pA 17 40 (tr 30 18) ?_
      refine pA 18 41 (tr 30 19) ?_
      refine pA 19 42 (tr 30 20) ?_
      refine pA 20 43 (tr 30 21) ?_
      refine oA 21 44 (tr 30 22) ?_
      refine oA 22 45 (tr 30 23) ?_
      refine oA 23 46 (tr 30 24) ?_
      refine pA 24 47 (tr 30 25) ?_
      refine pA 25 48 (tr 30 26) ?_
      refine oA 26 49 (tr 30 27) ?_
      refine oA 27 50 (tr 30 28) ?_
      refine oA 28 51 (tr 30 29) ?_
      refine pA 29 52 (tr 30 30) ?_
      refine done_ (by kernel_rfl) ?_
      clear hHeld
      obtain ⟨j1,j2,j3,j4⟩:=HFIN.out _ hb2
      have hr1:=HST.out.1 hbad
      subst hr1
      go_wp2_with fail
      go_ret2
      exact ⟨_,rfl,j3,j2⟩
     ·have HGE:=Lib.hid hge
      by_cases hlq:64<q.length
      ·have l1:decide ((q.length:Int) > 64)=true:=decide_eq_true (by omega)
       have l2:(64:Int)<(q.length:Int):=by omega
       have l3:decide ((64:Int)<(q.length:Int))=true:=decide_eq_true l2
       have hbad:badF (some y) q x=true:=by rw [HBF.out];simp [hlq]
       clear HAL HC hlq
       go_wp2_with fail
       refine start_ (n:=30) (S:=fun w'=>w'.cell? ⟨w.heap.size,3,none⟩=some (.slice (some aad) af.length c)∧w'.cell? ⟨wr.heap.size,0,none⟩=some (.string x.name)∧w'.cell? ⟨wr.heap.size,1,none⟩=some (.int .u8 x.kind)∧w'.cell? ⟨wr.heap.size,2,none⟩=some (.string x.data)∧w'.cell? ⟨wr.heap.size,3,none⟩=some (.slice A' x.files.length c')∧w'.cell? (aad.add (m * 4))=some (.string y)) (ds:=[]) (tr 30 0) (by kernel_rfl) rfl rfl ⟨y0,y1,y2,y3,y4,y5⟩ (fun hHeld => ?_)
       refine pA 0 23 (tr 30 1) ?_
       refine tA 1 24 (tr 30 2) hHeld ?_ (hy:=by
        rintro w' ⟨s0,s1,s2,s3,s4,s5⟩
        go_simp
        with_reducible rfl)
       refine one_ (i:=2) (N:=some 25) (tr 30 3) rfl rfl (by kernel_rfl) (by simp) (fun K hK => ?_)
       refine gA Tryz.func91 #[.string x.name] ?_
       refine (HNM.out _).mono ?_
       rintro e w2 ⟨rfl,hb2'⟩
       refine ⟨_,rfl,?_⟩
       have hb2:Below w1.heap.size w1 w2:=(bdrew h11).trans hb2'
       clear hb2' hHeld
       obtain ⟨z0,z1,z2,z3,z4⟩:=HP.out w2 hb2
       have z5:=HY.out w2 (HFIN.out w2 hb2).2.1
       refine hK.out _ _ ⟨z0,z1,z2,z3,z4,z5⟩ (fun hHeld => ?_)
       refine nA 25 ?_
       refine pA 3 26 (tr 30 4) ?_
       refine pA 4 27 (tr 30 5) ?_
       refine pA 5 28 (tr 30 6) ?_
       refine pA 6 29 (tr 30 7) ?_
       refine pA 7 30 (tr 30 8) ?_
       refine pA 8 31 (tr 30 9) ?_
       refine tA 9 32 (tr 30 10) hHeld ?_ (hy:=by
        rintro w' ⟨s0,s1,s2,s3,s4,s5⟩
        go_simp
        with_reducible rfl)
       refine pA 10 33 (tr 30 11) ?_
       refine pA 11 34 (tr 30 12) ?_
       refine pA 12 35 (tr 30 13) ?_
       refine pA 13 36 (tr 30 14) ?_
       refine tA 14 37 (tr 30 15) hHeld ?_ (hy:=by
        rintro w' ⟨s0,s1,s2,s3,s4,s5⟩
        go_simp
        with_reducible rfl)
       refine pA 15 38 (tr 30 16) ?_
       refine tA 16 39 (tr 30 17) hHeld ?_ (hy:=by
        rintro w' ⟨s0,s1,s2,s3,s4,s5⟩
        go_simp
        with_reducible rfl)
       refine pA 17 40 (tr 30 18) ?_
       refine pA 18 41 (tr 30 19) ?_
       refine pA 19 42 (tr 30 20) ?_
       refine pA 20 43 (tr 30 21) ?_
       refine pA 21 44 (tr 30 22) ?_
       refine pA 22 45 (tr 30 23) ?_
       refine pA 23 46 (tr 30 24) ?_
       refine pA 24 47 (tr 30 25) ?_
       refine pA 25 48 (tr 30 26) ?_
       refine oA 26 49 (tr 30 27) ?_
       refine oA 27 50 (tr 30 28) ?_
       refine oA 28 51 (tr 30 29) ?_
       refine pA 29 52 (tr 30 30) ?_
       refine done_ (by kernel_rfl) ?_
       clear hHeld
       obtain ⟨j1,j2,j3,j4⟩:=HFIN.out _ hb2
       have hr1:=HST.out.1 hbad
       subst hr1
       go_wp2_with fail
       go_ret2
       exact ⟨_,rfl,j3,j2⟩
      ·have l1:decide ((q.length:Int) > 64)=false:=decide_eq_false (by omega)
       have l2:¬ (64:Int)<(q.length:Int):=by omega
       have l3:decide ((64:Int)<(q.length:Int))=false:=decide_eq_false l2
       cases al
       ·have hbad:badF (some y) q x=true:=by rw [HBF.out];simp
        clear HC
        go_wp2_with fail
        refine start_ (n:=30) (S:=fun w'=>w'.cell? ⟨w.heap.size,3,none⟩=some (.slice (some aad) af.length c)∧w'.cell? ⟨wr.heap.size,0,none⟩=some (.string x.name)∧w'.cell? ⟨wr.heap.size,1,none⟩=some (.int .u8 x.kind)∧w'.cell? ⟨wr.heap.size,2,none⟩=some (.string x.data)∧w'.cell? ⟨wr.heap.size,3,none⟩=some (.slice A' x.files.length c')∧w'.cell? (aad.add (m * 4))=some (.string y)) (ds:=[]) (tr 30 0) (by kernel_rfl) rfl rfl ⟨y0,y1,y2,y3,y4,y5⟩ (fun hHeld => ?_)
        refine pA 0 23 (tr 30 1) ?_
        refine tA 1 24 (tr 30 2) hHeld ?_ (hy:=by
         rintro w' ⟨s0,s1,s2,s3,s4,s5⟩
         go_simp
         with_reducible rfl)
        refine one_ (i:=2) (N:=some 25) (tr 30 3) rfl rfl (by kernel_rfl) (by simp) (fun K hK => ?_)
        refine gA Tryz.func91 #[.string x.name] ?_
        refine (HNM.out _).mono ?_
        rintro e w2 ⟨rfl,hb2'⟩
        refine ⟨_,rfl,?_⟩
        have hb2:Below w1.heap.size w1 w2:=(bdrew h11).trans hb2'
        clear hb2' hHeld
        obtain ⟨z0,z1,z2,z3,z4⟩:=HP.out w2 hb2
        have z5:=HY.out w2 (HFIN.out w2 hb2).2.1
        refine hK.out _ _ ⟨z0,z1,z2,z3,z4,z5⟩ (fun hHeld => ?_)
        refine nA 25 ?_
        refine pA 3 26 (tr 30 4) ?_
        refine pA 4 27 (tr 30 5) ?_
        refine pA 5 28 (tr 30 6) ?_
        refine pA 6 29 (tr 30 7) ?_
        refine pA 7 30 (tr 30 8) ?_
        refine pA 8 31 (tr 30 9) ?_
        refine tA 9 32 (tr 30 10) hHeld ?_ (hy:=by
         rintro w' ⟨s0,s1,s2,s3,s4,s5⟩
         go_simp
         with_reducible rfl)
        refine pA 10 33 (tr 30 11) ?_
        refine pA 11 34 (tr 30 12) ?_
        refine pA 12 35 (tr 30 13) ?_
        refine pA 13 36 (tr 30 14) ?_
        refine tA 14 37 (tr 30 15) hHeld ?_ (hy:=by
         rintro w' ⟨s0,s1,s2,s3,s4,s5⟩
         go_simp
         with_reducible rfl)
        refine pA 15 38 (tr 30 16) ?_
        refine tA 16 39 (tr 30 17) hHeld ?_ (hy:=by
         rintro w' ⟨s0,s1,s2,s3,s4,s5⟩
         go_simp
         with_reducible rfl)
        refine pA 17 40 (tr 30 18) ?_
        refine pA 18 41 (tr 30 19) ?_
        refine pA 19 42 (tr 30 20) ?_
        refine pA 20 43 (tr 30 21) ?_
        refine pA 21 44 (tr 30 22) ?_
        refine pA 22 45 (tr 30 23) ?_
        refine pA 23 46 (tr 30 24) ?_
        refine pA 24 47 (tr 30 25) ?_
        refine pA 25 48 (tr 30 26) ?_
        refine tA 26 49 (tr 30 27) hHeld ?_ (hy:=by
         rintro w' ⟨s0,s1,s2,s3,s4,s5⟩
         go_simp
         with_reducible rfl)
        refine one_ (i:=27) (N:=some 50) (tr 30 28) rfl rfl (by kernel_rfl) (by simp) (fun K hK => ?_)
        refine gA Tryz.func126 #[.agg (fc x A' c')] ?_
        refine (HAL.out _).mono ?_
        rintro e w3 ⟨rfl,hb3'⟩
        refine ⟨_,rfl,?_⟩
        have hb3:Below w1.heap.size w1 w3:=hb2.trans (hb3'.mono hb2.size)
        clear hb3' z0 z1 z2 z3 z4 hHeld
        obtain ⟨z0,z1,z2,z3,z4⟩:=HP.out w3 hb3
        clear z5
        have z5:=HY.out w3 (HFIN.out w3 hb3).2.1
        refine hK.out _ _ ⟨z0,z1,z2,z3,z4,z5⟩ (fun hHeld => ?_)
        refine nA 50 ?_
        refine pA 28 51 (tr 30 29) ?_
        refine pA 29 52 (tr 30 30) ?_
        refine done_ (by kernel_rfl) ?_
        clear hHeld
        obtain ⟨j1,j2,j3,j4⟩:=HFIN.out _ hb3
        have hr1:=HST.out.1 hbad
        subst hr1
        go_wp2_with fail
        go_ret2
        exact ⟨_,rfl,j3,j2⟩
       ·have hbad:badF (some y) q x=false:=by rw [HBF.out];simp [hlq,prevGe,geB,HGE.out]
        go_wp2_with fail
        refine start_ (n:=30) (S:=fun w'=>w'.cell? ⟨w.heap.size,3,none⟩=some (.slice (some aad) af.length c)∧w'.cell? ⟨wr.heap.size,0,none⟩=some (.string x.name)∧w'.cell? ⟨wr.heap.size,1,none⟩=some (.int .u8 x.kind)∧w'.cell? ⟨wr.heap.size,2,none⟩=some (.string x.data)∧w'.cell? ⟨wr.heap.size,3,none⟩=some (.slice A' x.files.length c')∧w'.cell? (aad.add (m * 4))=some (.string y)) (ds:=[]) (tr 30 0) (by kernel_rfl) rfl rfl ⟨y0,y1,y2,y3,y4,y5⟩ (fun hHeld => ?_)
        refine pA 0 23 (tr 30 1) ?_
        refine tA 1 24 (tr 30 2) hHeld ?_ (hy:=by
         rintro w' ⟨s0,s1,s2,s3,s4,s5⟩
         go_simp
         with_reducible rfl)
        refine one_ (i:=2) (N:=some 25) (tr 30 3) rfl rfl (by kernel_rfl) (by simp) (fun K hK => ?_)
        refine gA Tryz.func91 #[.string x.name] ?_
        refine (HNM.out _).mono ?_
        rintro e w2 ⟨rfl,hb2'⟩
        refine ⟨_,rfl,?_⟩
        have hb2:Below w1.heap.size w1 w2:=(bdrew h11).trans hb2'
        clear hb2' hHeld
        obtain ⟨z0,z1,z2,z3,z4⟩:=HP.out w2 hb2
        have z5:=HY.out w2 (HFIN.out w2 hb2).2.1
        refine hK.out _ _ ⟨z0,z1,z2,z3,z4,z5⟩ (fun hHeld => ?_)
        refine nA 25 ?_
        refine pA 3 26 (tr 30 4) ?_
        refine pA 4 27 (tr 30 5) ?_
        refine pA 5 28 (tr 30 6) ?_
        refine pA 6 29 (tr 30 7) ?_
        refine pA 7 30 (tr 30 8) ?_
        refine pA 8 31 (tr 30 9) ?_
        refine tA 9 32 (tr 30 10) hHeld ?_ (hy:=by
         rintro w' ⟨s0,s1,s2,s3,s4,s5⟩
         go_simp
         with_reducible rfl)
        refine pA 10 33 (tr 30 11) ?_
        refine pA 11 34 (tr 30 12) ?_
        refine pA 12 35 (tr 30 13) ?_
        refine pA 13 36 (tr 30 14) ?_
        refine tA 14 37 (tr 30 15) hHeld ?_ (hy:=by
         rintro w' ⟨s0,s1,s2,s3,s4,s5⟩
         go_simp
         with_reducible rfl)
        refine pA 15 38 (tr 30 16) ?_
        refine tA 16 39 (tr 30 17) hHeld ?_ (hy:=by
         rintro w' ⟨s0,s1,s2,s3,s4,s5⟩
         go_simp
         with_reducible rfl)
        refine pA 17 40 (tr 30 18) ?_
        refine pA 18 41 (tr 30 19) ?_
        refine pA 19 42 (tr 30 20) ?_
        refine pA 20 43 (tr 30 21) ?_
        refine pA 21 44 (tr 30 22) ?_
        refine pA 22 45 (tr 30 23) ?_
        refine pA 23 46 (tr 30 24) ?_
        refine pA 24 47 (tr 30 25) ?_
        refine pA 25 48 (tr 30 26) ?_
        refine tA 26 49 (tr 30 27) hHeld ?_ (hy:=by
         rintro w' ⟨s0,s1,s2,s3,s4,s5⟩
         go_simp
         with_reducible rfl)
        refine one_ (i:=27) (N:=some 50) (tr 30 28) rfl rfl (by kernel_rfl) (by simp) (fun K hK => ?_)
        refine gA Tryz.func126 #[.agg (fc x A' c')] ?_
        refine (HAL.out _).mono ?_
        rintro e w3 ⟨rfl,hb3'⟩
        refine ⟨_,rfl,?_⟩
        have hb3:Below w1.heap.size w1 w3:=hb2.trans (hb3'.mono hb2.size)
        clear hb3' z0 z1 z2 z3 z4 hHeld
        obtain ⟨z0,z1,z2,z3,z4⟩:=HP.out w3 hb3
        clear z5
        have z5:=HY.out w3 (HFIN.out w3 hb3).2.1
        refine hK.out _ _ ⟨z0,z1,z2,z3,z4,z5⟩ (fun hHeld => ?_)
        refine nA 50 ?_
        refine pA 28 51 (tr 30 29) ?_
        refine pA 29 52 (tr 30 30) ?_
        refine done_ (by kernel_rfl) ?_
        clear hHeld
        obtain ⟨j1,j2,j3,j4⟩:=HFIN.out _ hb3
        have HJ2:=Lib.hid j2
        have HRC:=Lib.hid (HC.out w3 j1 Q cq q (by have:=hxq.out;have:=HQL.out;omega) j4 hcq)
        have HST1:=Lib.hid (HST.out.2.1 hbad)
        have HST2:=Lib.hid (HST.out.2.2 hbad)
        clear j1 j2 j3 j4 HC HST hbad
        generalize wrongN n x q=o at *
        go_wp2_with fail
        refine HRC.out.mono ?_
        rintro e w4 ⟨v4,rfl,ho4,hb4⟩
        have hbw4:=bstep HJ2.out HJ2.out.size hb4
        have hfx4:=(hb4.cell (p:=⟨w.heap.size,3,none⟩) (World.block_lt_of_cell? _ _ z0)).trans z0
        obtain ⟨A4,c4,hv4,hc4,hC4⟩:=Kd.R_reads ho4
        have HO4:=Lib.hid (Kd.R_lower ho4 HJ2.out.size)
        have hs4:=hbw4.size
        rw [hv4] at HO4 ⊢
        have hs5:w.heap.size+1≤w4.heap.size:=by have:=World.block_lt_of_cell? _ _ hfx4;simp only at this;omega
        clear ho4 hC4 hv4 HRC z0 z1 z2 z3 z4 hb4
        cases o with
        | some b =>
         have hr1:=HST1.out b rfl
         subst hr1
         simp only [Option.isSome_some,Option.getD_some] at HO4 ⊢
         go_wp2_with fail
         go_ret2
         exact ⟨_,rfl,HO4.out,hbw4⟩
        | none =>
         have hr1:=Lib.hid (HST2.out rfl)
         simp only [Option.isSome_none,Option.getD_none] at HO4 ⊢
         go_wp2_with fail
         go_roundw
         case rel=>exact ⟨(m+1)+1,by omega,by go_num,hbw4,hfx4,hs5,hr1⟩
         case measure=>simp [RowKit.intOf];omega
  ·obtain rfl:k=af.length:=by omega
   have hr0:=HRES.out
   rw [List.drop_length] at hr0
   have hrz:res=none:=hr0.symm
   subst hrz
   clear hlt HRES hr0
   go_wp2_with fail
   go_ret2
   exact ⟨_,rfl,Kd.R_nil _ _ _ _ _,hb⟩
end Go.Proofs.YtdnhjnlhmfajnaaGreatDoor.G
end
section
section
namespace Go.Proofs.YtdnhjnlhmfajnaaGreatDoor.G
open Go.RowKit Go.Lib Go.Proofs.YtdnhjnlhmfajnaaGreatDoorW.PrintWords Go.Proofs.YtdnhjnlhmfajnaaGreatDoorW.PrintLast
set_option linter.unusedVariables false
def checkO:Option (List ByteArray)→Int×List ByteArray
 | none=>(0,[])
 | some b=>(30,b)
def checkR (f:File):Int×List ByteArray:=if f.kind=1∧f.name.toList.isEmpty=true∧f.data.toList.isEmpty=true then checkO (wrongN f.bulk f []) else ((30:Int),[])
set_option maxHeartbeats 4000000 in
set_option maxRecDepth 100000 in
theorem check_calls (f:File) (A:Option Addr) (c:Nat) (w:World) (hbk:f.bulk≤1099511627776) (hr:FileK.C w A f.files.length f.files) (hc:f.files.length≤c) :
  Calls Tryz.prog 60 #[fileV f A c] w fun e w'=>∃ v,e=.returned (.tuple #[.int .i64 (checkR f).1,v])∧Kd.R Kd.string 9 w' w.heap.size (fun _=>True) v (checkR f).2∧Below w.heap.size w w':=by
 have HB:=Lib.hid ((Below.refl w.heap.size w).alloc (Nat.le_refl _) (.cells (fc f A c) 25))
 have HW:=Lib.hid (wrong_calls f.bulk f A c none 0 [] _ (Nat.le_refl _) hbk (by simp only [List.length_nil];omega) (Kd.C_below hr HB.out) hc (Kd.C_nil Kd.string _) (Nat.le_refl 0))
 have HR:Hid (checkR f=if f.kind=1∧f.name.toList.isEmpty=true∧f.data.toList.isEmpty=true then checkO (wrongN f.bulk f []) else ((30:Int),[])):=Lib.hid rfl
 generalize wrongN f.bulk f []=o at *
 generalize checkR f=cr at *
 obtain ⟨fn,fk,fd,fl⟩:=f
 have HS:=Lib.hid (show (w.alloc (.cells #[.string fn,.int .u8 fk,.string fd,.slice A fl.length c] 25)).heap.size=w.heap.size+1 by simp)
 clear hr hbk
 go_enter Tryz.func60,Tryz.ntmps60
 unfold fileV
 by_cases h1:fk=1
 ·subst h1
  cases h2:fn.toList.isEmpty
  ·have hcr:=HR.out
   rw [if_neg (by simp [h2])] at hcr
   subst hcr
   go_wp2_with fail
   go_ret2
   exact ⟨_,rfl,Kd.R_nil _ _ _ _ _,HB.out⟩
  ·cases h3:fd.toList.isEmpty
   ·have hcr:=HR.out
    rw [if_neg (by simp [h3])] at hcr
    subst hcr
    go_wp2_with fail
    go_ret2
    exact ⟨_,rfl,Kd.R_nil _ _ _ _ _,HB.out⟩
   ·have hcr:=HR.out
    rw [if_pos ⟨rfl,h2,h3⟩] at hcr
    go_wp2_with fail
    refine HW.out.mono ?_
    rintro e w1 ⟨v,rfl,ho,hb⟩
    have hb2:=HB.out.trans (hb.mono (by rw [HS.out];omega))
    have HO:=Lib.hid (Kd.R_lower (base':=w.heap.size) ho (by rw [HS.out];omega))
    obtain ⟨A1,c1,hv,hc1,hC1⟩:=Kd.R_reads ho
    rw [hv] at HO ⊢
    clear ho hC1 hv hb HW
    cases o with
    | none =>
     subst hcr
     simp only [Option.isSome_none,Option.getD_none] at HO ⊢
     go_wp2_with fail
     go_ret2
     exact ⟨_,rfl,Kd.R_nil _ _ _ _ _,hb2⟩
    | some b =>
     subst hcr
     simp only [Option.isSome_some,Option.getD_some] at HO ⊢
     go_wp2_with fail
     go_ret2
     exact ⟨_,rfl,HO.out,hb2⟩
 ·have hcr:=HR.out
  rw [if_neg (fun h=>h1 h.1)] at hcr
  subst hcr
  have k1:(fk != 1)=true:=by rw [bne_iff_ne];exact h1
  go_wp2_with fail
  go_ret2
  exact ⟨_,rfl,Kd.R_nil _ _ _ _ _,HB.out⟩
end Go.Proofs.YtdnhjnlhmfajnaaGreatDoor.G
end
section
namespace Go.Proofs.YtdnhjnlhmfajnaaGreatDoor.G
open Go.RowKit Go.Lib Go.Proofs.YtdnhjnlhmfajnaaGreatDoorW.PrintWords Go.Proofs.YtdnhjnlhmfajnaaGreatDoorW.PrintLast
set_option linter.unusedVariables false
def rightT (f:File):Bool:=(checkR f).1 == 0
set_option maxHeartbeats 4000000 in
theorem right_calls (f:File) (A:Option Addr) (c:Nat) (w:World) (hbk:f.bulk≤1099511627776) (hr:FileK.C w A f.files.length f.files) (hc:f.files.length≤c) :
  Calls Tryz.prog 36 #[fileV f A c] w fun e w'=>e=.returned (.bool (rightT f))∧Below w.heap.size w w':=by
 have HB:=Lib.hid ((Below.refl w.heap.size w).alloc (Nat.le_refl _) (.cells (fc f A c) 25))
 have HW:=Lib.hid (check_calls f A c _ hbk (Kd.C_below hr HB.out) hc)
 have HS:=Lib.hid (show (w.alloc (.cells (fc f A c) 25)).heap.size=w.heap.size+1 by simp)
 unfold rightT
 generalize checkR f=cr at *
 clear hr hbk
 go_enter Tryz.func36,Tryz.ntmps36
 unfold fileV
 go_wp2_with fail
 refine HW.out.mono ?_
 rintro e w1 ⟨v,rfl,ho,hb⟩
 have hb2:=HB.out.trans (hb.mono (by rw [HS.out];omega))
 obtain ⟨A1,c1,rfl,hc1,hC1⟩:=Kd.R_reads ho
 clear ho hC1 hb HW
 go_wp2_with fail
 go_ret
 exact ⟨rfl,hb2⟩
end Go.Proofs.YtdnhjnlhmfajnaaGreatDoor.G
end
end
