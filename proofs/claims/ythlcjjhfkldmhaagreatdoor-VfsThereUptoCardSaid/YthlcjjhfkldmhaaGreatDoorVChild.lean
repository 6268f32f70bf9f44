import Derived.Test.YthlcjjhfkldmhaaGreatDoorKit
import Derived.Test.YthlcjjhfkldmhaaGreatDoorTRSame
import Derived.Test.YthlcjjhfkldmhaaGreatDoorTStore
import Derived.Test.YthlcjjhfkldmhaaGreatDoorTCopy
import Derived.Test.YthlcjjhfkldmhaaGreatDoorVHd
set_option linter.unusedVariables false
set_option linter.unusedSimpArgs false
namespace Go.Proofs.YthlcjjhfkldmhaaGreatDoor.G
open Go.RowKit Go.Lib Go.Proofs.YthlcjjhfkldmhaaGreatDoorW.PrintWords Go.Proofs.YthlcjjhfkldmhaaGreatDoorW.PrintLast
set_option linter.unusedVariables false
set_option linter.unusedSimpArgs false
def placeF (n:ByteArray):List File→Int
 | [] => -1
 | x :: l=>if nameIs n x=true then 0 else if placeF n l = -1 then -1 else placeF n l+1
theorem placeF_hit {n:ByteArray}:∀ {l:List File} {k:Nat} (hk:k<l.length),(∀ j (hj:j<l.length),j<k→nameIs n l[j]=false)→nameIs n l[k]=true→placeF n l=k
 | [],k,hk,_,_=>by simp at hk
 | x :: l,0,hk,_,h1=>by
  simp only [List.getElem_cons_zero] at h1
  rw [placeF,if_pos h1]
  rfl
 | x :: l,k+1,hk,h0,h1=>by
  have hx:=h0 0 (by simp) (by omega)
  simp only [List.getElem_cons_zero] at hx
  have ih:=placeF_hit (n:=n) (l:=l) (k:=k) (by simpa using hk) (fun j hj hjk=>by have:=h0 (j+1) (by simpa using hj) (by omega);simpa using this) (by simpa using h1)
  rw [placeF,if_neg (by rw [hx];decide),ih,if_neg (by omega)]
  omega
theorem placeF_none {n:ByteArray}:∀ {l:List File},(∀ j (hj:j<l.length),nameIs n l[j]=false)→placeF n l = -1
 | [],_=>rfl
 | x :: l,h=>by
  have hx:=h 0 (by simp)
  simp only [List.getElem_cons_zero] at hx
  have ih:=placeF_none (n:=n) (l:=l) (fun j hj=>by have:=h (j+1) (by simpa using hj);simpa using this)
  rw [placeF,if_neg (by rw [hx];decide),ih,if_pos rfl]
theorem placeF_find (n:ByteArray):∀ (l:List File),(placeF n l = -1∧l.find? (nameIs n)=none)∨∃ (k:Nat) (hk:k<l.length),placeF n l=k∧l.find? (nameIs n)=some l[k]
 | []=>.inl ⟨rfl,rfl⟩
 | x :: l=>by
  cases hx:nameIs n x with
  | true=>exact .inr ⟨0,by simp,by rw [placeF,if_pos hx];rfl,by rw [List.find?_cons,hx];rfl⟩
  | false =>
   rcases placeF_find n l with ⟨h1,h2⟩ | ⟨k,hk,h1,h2⟩
   ·exact .inl ⟨by rw [placeF,if_neg (by rw [hx];decide),h1,if_pos rfl],by rw [List.find?_cons,hx];exact h2⟩
   ·exact .inr ⟨k+1,by simpa using hk,by rw [placeF,if_neg (by rw [hx];decide),h1,if_neg (by omega)];omega,by rw [List.find?_cons,hx];exact h2⟩
theorem three_allV (w:World) (cs ds es:Array Value) (t u v:TypeId):(((w.alloc (.cells cs t)).alloc (.cells ds u)).alloc (.cells es v)).heap[w.heap.size]? = some (.cells cs t (0,0))∧(((w.alloc (.cells cs t)).alloc (.cells ds u)).alloc (.cells es v)).heap[w.heap.size+1]? = some (.cells ds u (0,0))∧(((w.alloc (.cells cs t)).alloc (.cells ds u)).alloc (.cells es v)).heap[w.heap.size+2]? = some (.cells es v (0,0)) :=
 ⟨(Below.heap_alloc _ _ _ (by simp;omega)).trans (two_boxes w cs ds t u).1,(Below.heap_alloc _ _ _ (by simp)).trans (two_boxes w cs ds t u).2,three_boxes w cs ds es t u v⟩
set_option maxHeartbeats 2000000 in
set_option maxRecDepth 100000 in
theorem childF_calls (x:File) (A:Option Addr) (c:Nat) (g:Nat) (n:ByteArray) (w:World) (hg:w.cell? ⟨g,0,none⟩=some (.string n)) :
  Calls Tryz.prog 79 #[.agg (fc x A c),.pointer (some ⟨g,0,none⟩)] w fun e w'=>e=.returned (.bool (nameIs n x))∧Below w.heap.size w w':=by
 have hgl:=World.block_lt_of_cell? w _ hg
 have hb:=below_alloc (Below.refl w.heap.size w) (.cells (fc x A c) 25)
 have h0:=cell_of (j:=0) (blk_new w (.cells (fc x A c) 25)) rfl
 have hg2:=(hb.cell (p:=⟨g,0,none⟩) hgl).trans hg
 clear hg
 go_enter Tryz.func79,Tryz.ntmps79
 go_wp2_with fail
 go_ret
 exact ⟨rfl,hb⟩
set_option maxHeartbeats 4000000 in
set_option maxRecDepth 100000 in
theorem indexFile_calls (A:Option Addr) (c:Nat) (l:List File) (g:Nat) (n:ByteArray) (w:World) (hr:FileK.C w A l.length l) (hc:l.length≤c) (hl:l.length≤1099511627776) (hg:w.cell? ⟨g,0,none⟩=some (.string n)) :
  Calls Tryz.prog 78 #[.slice A l.length c,.func (.func 79) #[] #[.pointer (some ⟨g,0,none⟩)]] w fun e w'=>e=.returned (.int .i64 (placeF n l))∧Below w.heap.size w w':=by
 have HR:=Lib.hid hr
 have HG:=Lib.hid (fun W (h:Below w.heap.size w W)=>(h.cell (p:=⟨g,0,none⟩) (World.block_lt_of_cell? w _ hg)).trans hg)
 clear hr hg
 go_enter Tryz.func78,Tryz.ntmps78
 go_wp2_with fail
 go_loopw [8] (fun i wr=>∃ k:Nat,k≤l.length∧i=.int .i64 k∧Below w.heap.size w wr∧Hid (∀ j (h:j<l.length),j<k→nameIs n l[j]=false)) (fun i _=>l.length - (RowKit.intOf i).toNat)
 case atStart=>exact ⟨0,by omega,rfl,Below.refl _ _,Lib.hid (fun j _ hj=>by omega)⟩
 case round =>
  obtain ⟨k,hk,rfl,hb,HN⟩:=hrel
  have hsz:=hb.size
  by_cases hlt:k<l.length
  ·obtain ⟨ad,A',c',rfl,p1,p2,p3,p4,hc',hC'⟩:=file_at HR.out k hlt
   have mv:∀ {p:Addr} {v:Value},w.cell? p=some v→wr.cell? p=some v:=fun h=>(hb.cell (World.block_lt_of_cell? w _ h)).trans h
   have p1':=mv p1
   have p2':=mv p2
   have p3':=mv p3
   have p4':=mv p4
   have HK:=Lib.hid (fun W (h:Below w.heap.size w W)=>childF_calls l[k] A' c' g n W (HG.out W h))
   have HX:Hid (∀ r,nameIs n l[k]=r→(r=true→placeF n l=k)∧(r=false→∀ j (h:j<l.length),j<k+1→nameIs n l[j]=false)):=Lib.hid (by
    intro r hr
    refine ⟨fun e => ?_,fun e j h hj => ?_⟩
    ·subst e
     exact placeF_hit hlt HN.out hr
    ·by_cases h2:j<k
     ·exact HN.out j h h2
     ·obtain rfl:j=k:=by omega
      exact hr.trans e)
   clear p1 p2 p3 p4 mv hC' HN
   generalize nameIs n l[k]=sb at *
   generalize l[k]=x at *
   have g1:(k:Int)<(l.length:Int):=by omega
   cases sb
   ·go_wp2_with fail
    refine (HK.out _ hb).mono ?_
    rintro e w1 ⟨rfl,hb1⟩
    go_wp2_with fail
    go_roundw
    case rel=>exact ⟨k+1,by omega,by go_num,bstep hb hsz hb1,Lib.hid ((HX.out _ rfl).2 rfl)⟩
    case measure=>simp [RowKit.intOf];omega
   ·go_wp2_with fail
    refine (HK.out _ hb).mono ?_
    rintro e w1 ⟨rfl,hb1⟩
    go_wp2_with fail
    go_ret
    refine ⟨?_,bstep hb hsz hb1⟩
    rw [(HX.out _ rfl).1 rfl]
    rfl
  ·obtain rfl:k=l.length:=by omega
   go_wp2_with fail
   go_ret
   refine ⟨?_,hb⟩
   rw [placeF_none fun j hj=>HN.out j hj hj]
   rfl
def childO (f:File) (n:ByteArray):File×Bool:=match f.files.find? (nameIs n) with | some x=>(x,true) | none=>(zeroF,false)
set_option maxHeartbeats 4000000 in
set_option maxRecDepth 100000 in
theorem child_calls (f:File) (A:Option Addr) (c:Nat) (n:ByteArray) (w w0:World) (hb0:Below w0.heap.size w0 w) (hr:FileK.C w0 A f.files.length f.files) (hc:f.files.length≤c) (hl:f.files.length≤1099511627776) :
  Calls Tryz.prog 57 #[.agg (fc f A c),.string n] w fun e w'=>∃ A' c',e=.returned (.tuple #[.agg #[.string (childO f n).1.name,.int .u8 (childO f n).1.kind,.string (childO f n).1.data,.slice A' (childO f n).1.files.length c'],.bool (childO f n).2])∧(childO f n).1.files.length≤c'∧FileK.C w0 A' (childO f n).1.files.length (childO f n).1.files∧Below w.heap.size w w':=by
 have h3:=three_allV w (fc f A c) #[.string n] zC 25 9 25
 have hb:=((((Below.refl w.heap.size w).alloc (Nat.le_refl _) (.cells (fc f A c) 25)).alloc (by simp) (.cells #[.string n] 9)).alloc (by simp;omega) (.cells zC 25))
 have HR:=Lib.hid hr
 have f0:=cell_of (j:=3) h3.1 rfl
 have HN:=Lib.hid (cell_of (j:=0) h3.2.1 rfl)
 have HF:=Lib.hid h3.1
 have HZ:=Lib.hid h3.2.2
 have HIX:=Lib.hid (fun W (h1:Below w0.heap.size w0 W) (h2:W.cell? ⟨w.heap.size+1,0,none⟩=some (.string n))=>indexFile_calls A c f.files (w.heap.size+1) n W (Kd.C_below HR.out h1) hc hl h2)
 have HPL:=Lib.hid (placeF_find n f.files)
 obtain ⟨res,hres⟩:∃ r,childO f n=r:=⟨_,rfl⟩
 rw [hres]
 unfold childO at hres
 have HRES:=Lib.hid hres
 clear h3 hr hres
 go_enter Tryz.func57,Tryz.ntmps57
 have hmf:∀ (fn:Fn) (first cap:Array Value) (w:World),(Instr.makeFunc fn first cap).run Tryz.prog w=.ok (.func fn first cap) w:=fun fn first cap w=>by simp [Instr.makeFunc]
 go_wp2_with fail
 generalize (((w.alloc (.cells (fc f A c) 25)).alloc (.cells #[.string n] 9)).alloc (.cells zC 25))=W0 at *
 refine (HIX.out W0 (hb0.trans (hb.mono hb0.size)) HN.out).mono ?_
 rintro e w1 ⟨rfl,hq1⟩
 have hb1:=bstep hb hb.size hq1
 have HZ1:=Lib.hid ((hq1.block _ (blk_lt HZ.out)).trans HZ.out)
 have HF1:=Lib.hid ((hq1.block _ (blk_lt HF.out)).trans HF.out)
 have hbw:=hb0.trans (hb1.mono hb0.size)
 clear f0
 rcases HPL.out with ⟨h1,h2⟩ | ⟨k,hk,h1,h2⟩
 ·rw [h1]
  have HR2:=HRES.out
  rw [h2] at HR2
  have HR3:=Lib.hid HR2
  have k0:decide ((-1:Int)<0)=true:=rfl
  clear HR2 h1 h2 HPL
  have HZF:=Lib.hid (store4_box HZ1.out (.string ⟨#[]⟩) (.int .u8 0) (.string ⟨#[]⟩) (.slice none 0 0))
  have HB9:=Lib.hid (store4_below hb1 (g:=w.heap.size+2) (by omega) (.string ⟨#[]⟩) (.int .u8 0) (.string ⟨#[]⟩) (.slice none 0 0))
  obtain ⟨z0,z1,z2,z3⟩:=c4A HZ1.out
  obtain ⟨u0,u1,u2,u3⟩:=u4A HZ1.out
  go_wp2_with fail
  refine bodyPost_ret (results_ct rfl _ _ (w.heap.size+2) 25 zC (0,0) _ rfl HZF.out Tryz.underlying25 rfl (by kernel_rfl)) rfl ?_
  rw [← HR3.out]
  exact ⟨none,0,rfl,Nat.le_refl _,Kd.C_nil FileK _,HB9.out⟩
 ·rw [h1]
  have HR2:=HRES.out
  rw [h2] at HR2
  have HR3:=Lib.hid HR2
  clear HR2 h1 h2 HPL
  obtain ⟨ad,A',c',rfl,p1,p2,p3,p4,hc',hC'⟩:=file_at HR.out k hk
  have mv:∀ {p:Addr} {v:Value},w0.cell? p=some v→w1.cell? p=some v:=fun h=>(hbw.cell (World.block_lt_of_cell? w0 _ h)).trans h
  have p1':=mv p1
  have p2':=mv p2
  have p3':=mv p3
  have p4':=mv p4
  have HC':=Lib.hid hC'
  have f3:=cell_of (j:=3) HF1.out rfl
  have k0:decide ((k:Int)<0)=false:=by simp
  have g1:(k:Int)<(f.files.length:Int):=by omega
  clear p1 p2 p3 p4 mv hC'
  generalize f.files[k]=x at *
  have HZF:=Lib.hid (store4_box HZ1.out (.string x.name) (.int .u8 x.kind) (.string x.data) (.slice A' x.files.length c'))
  have HB9:=Lib.hid (store4_below hb1 (g:=w.heap.size+2) (by omega) (.string x.name) (.int .u8 x.kind) (.string x.data) (.slice A' x.files.length c'))
  obtain ⟨z0,z1,z2,z3⟩:=c4A HZ1.out
  obtain ⟨u0,u1,u2,u3⟩:=u4A HZ1.out
  go_wp2_with fail
  refine bodyPost_ret (results_ct rfl _ _ (w.heap.size+2) 25 (fc x A' c') (0,0) _ rfl HZF.out Tryz.underlying25 rfl (by kernel_rfl)) rfl ?_
  rw [← HR3.out]
  exact ⟨A',c',rfl,hc',HC'.out,HB9.out⟩
end Go.Proofs.YthlcjjhfkldmhaaGreatDoor.G
