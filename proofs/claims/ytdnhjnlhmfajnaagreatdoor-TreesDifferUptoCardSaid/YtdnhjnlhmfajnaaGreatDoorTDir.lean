import Derived.Test.YtdnhjnlhmfajnaaGreatDoorKit
import Derived.Test.YtdnhjnlhmfajnaaGreatDoorTFind
import Derived.Test.YtdnhjnlhmfajnaaGreatDoorTRight
import Derived.Laws.ResultCell
set_option linter.unusedVariables false
set_option linter.unusedSimpArgs false
section
namespace Go.Proofs.YtdnhjnlhmfajnaaGreatDoor.G
open Go.RowKit Go.Lib Go.Proofs.YtdnhjnlhmfajnaaGreatDoorW.PrintWords Go.Proofs.YtdnhjnlhmfajnaaGreatDoorW.PrintLast
set_option linter.unusedVariables false
mutual
def SortF:File→Prop
 | ⟨_,_,_,l⟩=>SortedN l∧SortL l
def SortL:List File→Prop
 | []=>True
 | x :: l=>SortF x∧SortL l
end
theorem SortF_eq (f:File):SortF f=(SortedN f.files∧SortL f.files):=by cases f;rw [SortF]
theorem SortL_mem:∀ {l:List File},SortL l↔∀ x∈l,SortF x
 | []=>by simp [SortL]
 | x :: l=>by rw [SortL,SortL_mem];simp
def goP:File→List ByteArray→Int×Option File
 | f,[]=>(0,some f)
 | f,n :: p=>if f.kind=1 then (match f.files[lowB f.files n]? with | some x=>if x.name.toList == n.toList then goP x p else (31,none) | none=>(31,none)) else (32,none)
structure FileAt (w:World) (ad:Addr) (f:File) (A:Option Addr) (c:Nat):Prop where
 c0:w.cell? ad=some (.string f.name)
 c1:w.cell? ⟨ad.block,ad.off+1,none⟩=some (.int .u8 f.kind)
 c2:w.cell? ⟨ad.block,ad.off+2,none⟩=some (.string f.data)
 c3:w.cell? ⟨ad.block,ad.off+3,none⟩=some (.slice A f.files.length c)
 le:f.files.length≤c
 ch:FileK.C w A f.files.length f.files
def Reach (w:World):Addr→File→List ByteArray→Addr→File→Prop
 | ad,f,[],ad',y=>ad'=ad∧y=f
 | ad,f,n :: p,ad',y=>∃ (b:Addr) (c:Nat) (x:File),w.cell? ⟨ad.block,ad.off+3,none⟩=some (.slice (some b) f.files.length c)∧f.files[lowB f.files n]? = some x∧Reach w (b.add (lowB f.files n * 4)) x p ad' y
theorem Reach_snoc {w:World} {n:ByteArray}:∀ {p:List ByteArray} {ad:Addr} {f:File} {ad1:Addr} {y1:File} {b:Addr} {c:Nat} {x:File},Reach w ad f p ad1 y1→w.cell? ⟨ad1.block,ad1.off+3,none⟩=some (.slice (some b) y1.files.length c)→y1.files[lowB y1.files n]? = some x→Reach w ad f (p++[n]) (b.add (lowB y1.files n * 4)) x
 | [],ad,f,ad1,y1,b,c,x,⟨h1,h2⟩,hc,hx=>by subst h1;subst h2;exact ⟨b,c,x,hc,hx,rfl,rfl⟩
 | _ :: p,ad,f,ad1,y1,b,c,x,⟨b',c',x',h1,h2,h3⟩,hc,hx=>⟨b',c',x',h1,h2,Reach_snoc h3 hc hx⟩
set_option maxHeartbeats 4000000 in
set_option maxRecDepth 100000 in
theorem get_calls (f:File) (ad:Addr) (A:Option Addr) (c:Nat) (Ap:Option Addr) (cp:Nat) (p:List ByteArray) (w:World) (hf:FileAt w ad f A c) (hbk:f.bulk≤1099511627776) (hs:SortF f) (hp:Kd.C Kd.string w Ap p.length p) (hcp:p.length≤cp) (hpl:p.length≤1099511627776) :
  Calls Tryz.prog 68 #[.pointer (some ad),.slice Ap p.length cp] w fun e w'=>Below w.heap.size w w'∧((∃ ad' y A' c',goP f p=(0,some y)∧e=.returned (.tuple #[.pointer (some ad'),.int .i64 0])∧FileAt w ad' y A' c'∧Reach w ad f p ad' y∧y.bulk≤f.bulk∧SortF y)∨(∃ k,k≠0∧goP f p=(k,none)∧e=.returned (.tuple #[.pointer none,.int .i64 k]))):=by
 have HP:=Lib.hid hp
 have HFS:=Lib.hid (fun (A:Option Addr) (c:Nat) (l:List File) n W h1 h2 h3 h4=>find_calls A c l n W h1 h2 h3 h4)
 clear hp
 go_enter Tryz.func68,Tryz.ntmps68
 go_wp2_with fail
 go_loopw [0,12] (fun vt vi wr=>∃ (k:Nat) (ad1:Addr) (y:File) (A1:Option Addr) (c1:Nat),k≤p.length∧vt=.pointer (some ad1)∧vi=.int .i64 k∧Below w.heap.size w wr∧Hid (FileAt w ad1 y A1 c1)∧Hid (Reach w ad f (p.take k) ad1 y)∧Hid (goP f p=goP y (p.drop k))∧y.bulk≤f.bulk∧Hid (SortF y)) (fun _ vi _=>p.length - (RowKit.intOf vi).toNat)
 case atStart=>exact ⟨0,ad,f,A,c,by omega,rfl,rfl,Below.refl _ _,Lib.hid hf,Lib.hid ⟨rfl,rfl⟩,Lib.hid rfl,Nat.le_refl _,Lib.hid hs⟩
 case round =>
  obtain ⟨k,ad1,y,A1,c1,hk,rfl,rfl,hb,HA,HRe,HG,hyb,HS⟩:=hrel
  by_cases hlt:k<p.length
  ·obtain ⟨pad,rfl,hx⟩:=Kd.at_string HP.out (k:Int) (by omega) (by omega)
   rw [Int.toNat_natCast] at hx
   have he:rdOf ByteArray.empty p (k:Int)=p[k]:=by simp [rdOf,hlt]
   rw [he] at hx
   have hx':=(hb.cell (World.block_lt_of_cell? w _ hx)).trans hx
   have q1:=(hb.cell (World.block_lt_of_cell? w _ HA.out.c1)).trans HA.out.c1
   have q3:=(hb.cell (World.block_lt_of_cell? w _ HA.out.c3)).trans HA.out.c3
   have hdr:p.drop k=p[k] :: p.drop (k+1):=List.drop_eq_getElem_cons hlt
   have htk:p.take (k+1)=p.take k++[p[k]]:=List.take_succ_eq_append_getElem hlt
   have hgo:=HG.out
   rw [hdr,goP] at hgo
   have HTK:=Lib.hid htk
   clear he hx hdr htk HG
   generalize p[k]=n at *
   have g1:(k:Int)<(p.length:Int):=by omega
   by_cases hk1:y.kind=1
   ·rw [if_pos hk1] at hgo
    have hye:=bulk_eq y
    have hyl:=bulkL_len y.files
    have hss:=HS.out
    rw [SortF_eq] at hss
    have HFI:=Lib.hid (HFS.out A1 c1 y.files n wr (Kd.C_below HA.out.ch hb) HA.out.le (by omega) hss.1)
    have HFD:Hid (foundB y.files n=match y.files[lowB y.files n]? with | some x=>x.name.toList == n.toList | none=>false):=Lib.hid rfl
    have HGO:=Lib.hid hgo
    have HSS:=Lib.hid hss.2
    clear hgo hss hye hyl
    go_wp2_with fail
    refine HFI.out.mono ?_
    rintro e w1 ⟨rfl,hb1⟩
    have hb':=bstep hb hb.size hb1
    have hlw:=low_le y.files n
    clear q1 q3 hx'
    have q3:=(hb'.cell (World.block_lt_of_cell? w _ HA.out.c3)).trans HA.out.c3
    obtain ⟨i,hi⟩:∃ i,lowB y.files n=i:=⟨_,rfl⟩
    rw [hi] at HGO HFD hlw ⊢
    have HIL:=Lib.hid hi
    clear hi
    cases hfb:foundB y.files n
    ·have hgo:=HGO.out
     have hfd:=HFD.out
     rw [hfb] at hfd
     have hg31:goP f p=(31,none):=by
      rw [hgo]
      cases hx:y.files[i]? with
      | none=>rfl
      | some x=>rw [hx] at hfd;simp only at hfd ⊢;rw [if_neg (by rw [← hfd];decide)]
     clear hgo hfd
     go_wp2_with fail
     go_ret2
     exact ⟨hb',.inr ⟨31,by decide,hg31,rfl⟩⟩
    ·have hgo:=HGO.out
     have hfd:=HFD.out
     rw [hfb] at hfd
     have hil:i<y.files.length:=by
      rcases Nat.lt_or_ge i y.files.length with h | h
      ·exact h
      ·rw [List.getElem?_eq_none h] at hfd
       cases hfd
     have hge:=List.getElem?_eq_getElem hil
     rw [hge] at hgo hfd
     simp only at hgo hfd
     rw [if_pos hfd.symm] at hgo
     obtain ⟨b,A',c',rfl,p1,p2,p3,p4,hc',hC'⟩:=file_at HA.out.ch i hil
     have hmem:=List.getElem_mem hil
     have HAN:Hid (FileAt w (b.add (i * 4)) y.files[i] A' c'):=Lib.hid ⟨p1,p2,p3,p4,hc',hC'⟩
     have HRN:Hid (Reach w ad f (p.take (k+1)) (b.add (i * 4)) y.files[i]):=Lib.hid (by have hsn:=Reach_snoc (n:=n) HRe.out HA.out.c3 (by rw [HIL.out];exact hge);rw [HIL.out] at hsn;rw [HTK.out];exact hsn)
     have hbb:y.files[i].bulk≤f.bulk:=by have:=bulk_child hmem;omega
     have HSN:Hid (SortF y.files[i]):=Lib.hid (SortL_mem.1 HSS.out _ hmem)
     have HGN:=Lib.hid hgo
     clear hgo hfd hge p1 p2 p3 p4 hC' hmem HGO
     generalize y.files[i]=x at *
     have g2:(i:Int)<(y.files.length:Int):=by omega
     go_wp2_with fail
     go_roundw
     case rel=>exact ⟨k+1,b.add (i * 4),x,A',c',by omega,by go_num,by go_num,hb',HAN,HRN,HGN,hbb,HSN⟩
     case measure=>simp [RowKit.intOf];omega
   ·rw [if_neg hk1] at hgo
    have k1:(y.kind != 1)=true:=by rw [bne_iff_ne];exact hk1
    go_wp2_with fail
    go_ret2
    exact ⟨hb,.inr ⟨32,by decide,hgo,rfl⟩⟩
  ·obtain rfl:k=p.length:=by omega
   rw [List.drop_length] at HG
   rw [List.take_length] at HRe
   go_wp2_with fail
   go_ret2
   exact ⟨hb,.inl ⟨ad1,y,A1,c1,by rw [HG.out,goP],rfl,HA.out,HRe.out,hyb,HS.out⟩⟩
theorem wrongL_none (rec:File→List ByteArray→Option (List ByteArray)) (p:List ByteArray):∀ (l:List File) (prev:Option ByteArray),wrongL rec p prev l=none →
  (∀ y,prev=some y→∀ x∈l,lessB y x.name=true)∧SortedN l∧∀ x∈l,rec x (p++[x.name])=none
 | [],prev,_=>⟨fun _ _ x hx=>(by cases hx),List.Pairwise.nil,fun x hx=>(by cases hx)⟩
 | x :: l,prev,h=>by
  rw [wrongL] at h
  by_cases hb:badF prev (p++[x.name]) x=true
  ·rw [if_pos hb] at h
   cases h
  ·rw [if_neg hb] at h
   cases hr:rec x (p++[x.name]) with
   | some b=>rw [hr] at h;cases h
   | none =>
    rw [hr] at h
    obtain ⟨h1,h2,h3⟩:=wrongL_none rec p l (some x.name) h
    have hx:=h1 x.name rfl
    have hp:∀ y,prev=some y→lessB y x.name=true:=by
     rintro y rfl
     cases hl:lessB y x.name
     ·exact absurd (by simp [badF,prevGe,geB,show Op.bytesLess y.toList x.name.toList=false from hl]) hb
     ·rfl
    refine ⟨fun y hy z hz => ?_,List.pairwise_cons.2 ⟨hx,h2⟩,fun z hz => ?_⟩
    ·rcases List.mem_cons.1 hz with rfl | hz
     ·exact hp y hy
     ·exact less_trans (hp y hy) (hx z hz)
    ·rcases List.mem_cons.1 hz with rfl | hz
     ·exact hr
     ·exact h3 z hz
theorem wrongN_sort:∀ (n:Nat) (f:File) (p:List ByteArray),f.bulk≤n→wrongN n f p=none→SortF f
 | 0,f,p,h,_=>by have:=bulk_eq f;omega
 | n+1,f,p,h,hw=>by
  obtain ⟨_,h2,h3⟩:=wrongL_none (wrongN n) p f.files none hw
  rw [SortF_eq]
  refine ⟨h2,SortL_mem.2 fun x hx=>wrongN_sort n x _ (by have:=bulk_child hx;omega) (h3 x hx)⟩
theorem right_sort {f:File} (h:rightT f=true):SortF f:=by
 have h1:(checkR f).1=0:=by simpa [rightT] using h
 unfold checkR at h1
 by_cases hc:f.kind=1∧f.name.toList.isEmpty=true∧f.data.toList.isEmpty=true
 ·rw [if_pos hc] at h1
  cases hw:wrongN f.bulk f [] with
  | none=>exact wrongN_sort _ _ _ (Nat.le_refl _) hw
  | some b=>rw [hw] at h1;simp [checkO] at h1
 ·rw [if_neg hc] at h1
  simp at h1
theorem results_ct {P:Program} {fn:Func} {p u:Tmp} {ty:TypeId} (h:fn.results=#[.cell p ty,.tmp u]) (tmps:Array Value) (w:World) (g:Nat) (t:TypeId) (cs:Array Value) (fr:Nat×Nat) (d:TypeDesc)
  (hp:tmps.getD p undef=.pointer (some ⟨g,0,none⟩)) (hg:w.heap[g]? = some (.cells cs t fr))
  (hu:P.underlying ty=some d) (hd:(match d with | .struct _ | .array _ _=>true | _=>false)=true) (hi:(P.info? ty).map (·.size)=some cs.size) :
  (results fn tmps).run P w=.ok (.tuple #[.agg cs,tmps.getD u undef]) w:=by
 rw [results_cell_tmp h tmps P w,hp]
 simp [asAddr,run_loadVar_row w g t ty cs fr d hg hu hd hi,Result.andThen]
def getR (f:File) (p:List ByteArray):File×Int:=if rightT f then (match goP f p with | (_,some y)=>(y,0) | (k,none)=>(zeroF,k)) else (zeroF,30)
set_option maxHeartbeats 4000000 in
set_option maxRecDepth 100000 in
theorem Get_calls (f:File) (A:Option Addr) (c:Nat) (Ap:Option Addr) (cp:Nat) (p:List ByteArray) (w:World) (hr:FileK.C w A f.files.length f.files) (hc:f.files.length≤c) (hbk:f.bulk≤1099511627776) (hp:Kd.C Kd.string w Ap p.length p) (hcp:p.length≤cp) (hpl:p.length≤1099511627776) :
  Calls Tryz.prog 28 #[fileV f A c,.slice Ap p.length cp] w fun e w'=>∃ v,e=.returned (.tuple #[.agg #[.string (getR f p).1.name,.int .u8 (getR f p).1.kind,.string (getR f p).1.data,v],.int .i64 (getR f p).2])∧FileK.R 25 w' w.heap.size (fun _=>True) v (getR f p).1.files∧Below w.heap.size w w':=by
 have h2:=two_boxes w (fc f A c) zC 25 25
 have hb2:=(below_alloc (Below.refl w.heap.size w) (.cells (fc f A c) 25)).alloc (by simp) (.cells zC 25)
 have hz2:((w.alloc (.cells (fc f A c) 25)).alloc (.cells zC 25)).heap.size=w.heap.size+2:=by simp
 have HRT:=Lib.hid (right_calls f A c _ hbk (Kd.C_below hr hb2) hc)
 have HR:=Lib.hid hr
 have HP:=Lib.hid hp
 have HGR:Hid (getR f p=if rightT f then (match goP f p with | (_,some y)=>(y,0) | (k,none)=>(zeroF,k)) else (zeroF,30)):=Lib.hid rfl
 have HGC:=Lib.hid (fun W h1 h2 h3=>get_calls f ⟨w.heap.size,0,none⟩ A c Ap cp p W h1 hbk h2 h3 hcp hpl)
 generalize getR f p=gr at *
 obtain ⟨y0,y1,y2,y3⟩:=c4A h2.1
 have H2:=Lib.hid h2
 clear hr hp h2
 go_enter Tryz.func28,Tryz.ntmps28
 unfold fileV
 go_wp2_with fail
 generalize ((w.alloc (.cells (fc f A c) 25)).alloc (.cells zC 25))=W0 at *
 refine HRT.out.mono ?_
 rintro e w1 ⟨rfl,hb1⟩
 have hs1:=hb1.size
 have hb1w:=hb2.trans (hb1.mono (by omega))
 have HN1:=Lib.hid ((hb1.block w.heap.size (by omega)).trans H2.out.1)
 have HN2:=Lib.hid ((hb1.block (w.heap.size+1) (by omega)).trans H2.out.2)
 have f0:∀ j,w1.frozen? ⟨w.heap.size+1,j,none⟩=false:=fun j=>by simp [World.frozen?,HN2.out]
 have f00:=f0 0
 have f01:=f0 1
 have f02:=f0 2
 have f03:=f0 3
 obtain ⟨z0,z1,z2,z3⟩:=c4A HN2.out
 have HST:Hid (∀ (W:World) (h:W.heap[w.heap.size+1]? = some (.cells zC 25 (0,0))) (u0 u1 u2 u3:Value),
   ((((W.setCell ⟨w.heap.size+1,0,none⟩ u0).setCell ⟨w.heap.size+1,1,none⟩ u1).setCell ⟨w.heap.size+1,2,none⟩ u2).setCell ⟨w.heap.size+1,3,none⟩ u3).heap[w.heap.size+1]? = some (.cells #[u0,u1,u2,u3] 25 (0,0))) :=
  Lib.hid fun W h u0 u1 u2 u3=>blk_put (cs:=#[u0,u1,u2,.slice none 0 0]) (blk_put (cs:=#[u0,u1,.string ⟨#[]⟩,.slice none 0 0]) (blk_put (cs:=#[u0,.int .u8 0,.string ⟨#[]⟩,.slice none 0 0]) (blk_put (cs:=zC) h 0 _ rfl) 1 _ rfl) 2 _ rfl) 3 _ rfl
 have HBL:Hid (∀ (W:World),Below w.heap.size w W→∀ (u0 u1 u2 u3:Value),Below w.heap.size w ((((W.setCell ⟨w.heap.size+1,0,none⟩ u0).setCell ⟨w.heap.size+1,1,none⟩ u1).setCell ⟨w.heap.size+1,2,none⟩ u2).setCell ⟨w.heap.size+1,3,none⟩ u3)) :=
  Lib.hid fun W h u0 u1 u2 u3=>(((h.setCell (by simp only;omega) _).setCell (by simp only;omega) _).setCell (by simp only;omega) _).setCell (by simp only;omega) _
 clear f0 y0 y1 y2 y3 HRT hb1
 cases hrt:rightT f
 ·have hg:=HGR.out
  rw [hrt] at hg
  simp only [Bool.false_eq_true,if_false] at hg
  subst hg
  have HH:=Lib.hid (HST.out w1 HN2.out (.string ⟨#[]⟩) (.int .u8 0) (.string ⟨#[]⟩) (.slice none 0 0))
  have HB:=Lib.hid (HBL.out w1 hb1w (.string ⟨#[]⟩) (.int .u8 0) (.string ⟨#[]⟩) (.slice none 0 0))
  go_wp2_with fail
  refine bodyPost_ret (results_ct rfl _ _ (w.heap.size+1) 25 zC (0,0) _ rfl HH.out Tryz.underlying25 rfl (by kernel_rfl)) rfl ?_
  exact ⟨_,rfl,Kd.R_nil _ _ _ _ _,HB.out⟩
 ·have hg:=HGR.out
  rw [hrt] at hg
  simp only [if_true] at hg
  have HG:=Lib.hid hg
  clear hg
  go_wp2_with fail
  refine (HGC.out w1 ⟨cell_of HN1.out rfl,cell_of HN1.out rfl,cell_of HN1.out rfl,cell_of HN1.out rfl,hc,Kd.C_below HR.out hb1w⟩ (right_sort hrt) (Kd.C_below HP.out hb1w)).mono ?_
  rintro e w2 ⟨hb2',⟨ad',y,A',c',hgo,rfl,hat,_,hyb,_⟩ | ⟨k,hk0,hgo,rfl⟩⟩
  ·have hg:=HG.out
   rw [hgo] at hg
   simp only at hg
   subst hg
   have hs2:=hb2'.size
   have hb2w:=bstep hb1w hb1w.size hb2'
   have x0:=(hb2'.cell (World.block_lt_of_cell? w1 _ hat.c0)).trans hat.c0
   have x1:=(hb2'.cell (World.block_lt_of_cell? w1 _ hat.c1)).trans hat.c1
   have x2:=(hb2'.cell (World.block_lt_of_cell? w1 _ hat.c2)).trans hat.c2
   have x3:=(hb2'.cell (World.block_lt_of_cell? w1 _ hat.c3)).trans hat.c3
   have HCP:=Lib.hid (show Calls Tryz.prog 29 #[.agg (fc y A' c')] w2 _ from copy_file y.bulk y A' c' w2 (Nat.le_refl _) (by omega) (Kd.C_below hat.ch hb2') hat.le)
   clear HG hgo hat
   go_wp2_with fail
   refine HCP.out.mono ?_
   rintro e w3 ⟨v,rfl,ho,hb3⟩
   have hs3:=hb3.size
   have HN3:=Lib.hid ((hb3.block (w.heap.size+1) (by omega)).trans ((hb2'.block (w.heap.size+1) (by omega)).trans HN2.out))
   have hb3w:=bstep hb2w hb2w.size hb3
   have HO:=Lib.hid (Kd.R_lower (base':=w.heap.size) (Kd.R_mono (Kd.R_bound ho) (ok':=fun j=>w2.heap.size≤j) fun j hj=>hj.2.1) (by omega))
   obtain ⟨A3,c3,rfl,hc3,hC3⟩:=Kd.R_reads ho
   have HH:=Lib.hid (HST.out w3 HN3.out (.string y.name) (.int .u8 y.kind) (.string y.data) (.slice A3 y.files.length c3))
   have HB:=Lib.hid (HBL.out w3 hb3w (.string y.name) (.int .u8 y.kind) (.string y.data) (.slice A3 y.files.length c3))
   have HRR:=Lib.hid (Kd.R_mono (Kd.R_far (Kd.R_far (Kd.R_far (Kd.R_far HO.out (p:=⟨w.heap.size+1,0,none⟩) (fun j hj=>by simp only;omega) (.string y.name)) (p:=⟨w.heap.size+1,1,none⟩) (fun j hj=>by simp only;omega) (.int .u8 y.kind)) (p:=⟨w.heap.size+1,2,none⟩) (fun j hj=>by simp only;omega) (.string y.data)) (p:=⟨w.heap.size+1,3,none⟩) (fun j hj=>by simp only;omega) (.slice A3 y.files.length c3)) (ok':=fun _=>True) fun _ _=>trivial)
   clear ho hC3 f00 f01 f02 f03 z0 z1 z2 z3 x0 x1 x2 x3
   have f0:∀ j,w3.frozen? ⟨w.heap.size+1,j,none⟩=false:=fun j=>by simp [World.frozen?,HN3.out]
   have f00:=f0 0
   have f01:=f0 1
   have f02:=f0 2
   have f03:=f0 3
   obtain ⟨z0,z1,z2,z3⟩:=c4A HN3.out
   clear f0
   go_wp2_with fail
   refine bodyPost_ret (results_ct rfl _ _ (w.heap.size+1) 25 (fc y A3 c3) (0,0) _ rfl HH.out Tryz.underlying25 rfl (by kernel_rfl)) rfl ?_
   exact ⟨_,rfl,HRR.out,HB.out⟩
  ·have hg:=HG.out
   rw [hgo] at hg
   simp only at hg
   subst hg
   have hs2:=hb2'.size
   have hb2w:=bstep hb1w hb1w.size hb2'
   have HN3:=Lib.hid ((hb2'.block (w.heap.size+1) (by omega)).trans HN2.out)
   have HH:=Lib.hid (HST.out w2 HN3.out (.string ⟨#[]⟩) (.int .u8 0) (.string ⟨#[]⟩) (.slice none 0 0))
   have HB:=Lib.hid (HBL.out w2 hb2w (.string ⟨#[]⟩) (.int .u8 0) (.string ⟨#[]⟩) (.slice none 0 0))
   clear f00 f01 f02 f03 z0 z1 z2 z3
   have f0:∀ j,w2.frozen? ⟨w.heap.size+1,j,none⟩=false:=fun j=>by simp [World.frozen?,HN3.out]
   have f00:=f0 0
   have f01:=f0 1
   have f02:=f0 2
   have f03:=f0 3
   obtain ⟨z0,z1,z2,z3⟩:=c4A HN3.out
   have k1:(k != 0)=true:=by rw [bne_iff_ne];exact hk0
   clear f0
   go_wp2_with fail
   refine bodyPost_ret (results_ct rfl _ _ (w.heap.size+1) 25 zC (0,0) _ rfl HH.out Tryz.underlying25 rfl (by kernel_rfl)) rfl ?_
   exact ⟨_,rfl,Kd.R_nil _ _ _ _ _,HB.out⟩
end Go.Proofs.YtdnhjnlhmfajnaaGreatDoor.G
end
section
section
namespace Go.Proofs.YtdnhjnlhmfajnaaGreatDoor.G
open Go.RowKit Go.Lib Go.Proofs.YtdnhjnlhmfajnaaGreatDoorW.PrintWords Go.Proofs.YtdnhjnlhmfajnaaGreatDoorW.PrintLast
set_option linter.unusedVariables false
mutual
def FT (B:Nat):File→World→Value→List Nat→Prop
 | ⟨_,_,_,l⟩=>fun w v bl=>(l=[]∧v=.slice none 0 0∧bl=[])∨∃ g inner bs,v.ownBlock=some g∧bl=g :: bs∧w.ownsRow B 25 4 v l.length inner∧LT B l w inner bs
def LT (B:Nat):List File→World→List Value→List Nat→Prop
 | []=>fun _ inner bs=>inner=[]∧bs=[]
 | x :: l=>fun w inner bs=>∃ v bx br rest,inner=.string x.name :: .int .u8 x.kind :: .string x.data :: v :: rest∧bs=bx++br∧FT B x w v bx∧LT B l w rest br
end
theorem FT_eq (B:Nat) (x:File) (w:World) (v:Value) (bl:List Nat):FT B x w v bl=((x.files=[]∧v=.slice none 0 0∧bl=[])∨∃ g inner bs,v.ownBlock=some g∧bl=g :: bs∧w.ownsRow B 25 4 v x.files.length inner∧LT B x.files w inner bs):=by
 cases x
 rw [FT]
mutual
theorem FT_move (B:Nat):∀ (x:File) (w w':World) (v:Value) (bl:List Nat),FT B x w v bl→(∀ k∈bl,w'.heap[k]? = w.heap[k]?)→FT B x w' v bl
 | ⟨_,_,_,l⟩,w,w',v,bl,h,hm=>by
  rw [FT] at h ⊢
  rcases h with h | ⟨g,inner,bs,hv,rfl,ho,hl⟩
  ·exact .inl h
  ·refine .inr ⟨g,inner,bs,hv,rfl,own_move ho (fun k hk => ?_),LT_move B l w w' inner bs hl fun k hk=>hm k (List.mem_cons_of_mem _ hk)⟩
   rw [hv] at hk
   injection hk with hk
   subst hk
   exact hm _ List.mem_cons_self
theorem LT_move (B:Nat):∀ (l:List File) (w w':World) (inner:List Value) (bs:List Nat),LT B l w inner bs→(∀ k∈bs,w'.heap[k]? = w.heap[k]?)→LT B l w' inner bs
 | [],w,w',inner,bs,h,hm=>by rw [LT] at h ⊢;exact h
 | x :: l,w,w',inner,bs,h,hm=>by
  rw [LT] at h ⊢
  obtain ⟨v,bx,br,rest,h1,rfl,h3,h4⟩:=h
  exact ⟨v,bx,br,rest,h1,rfl,FT_move B x w w' v bx h3 fun k hk=>hm k (List.mem_append_left _ hk),LT_move B l w w' rest br h4 fun k hk=>hm k (List.mem_append_right _ hk)⟩
end
mutual
theorem FT_lt (B:Nat):∀ (x:File) (w:World) (v:Value) (bl:List Nat),FT B x w v bl→∀ k∈bl,k<w.heap.size∧B≤k
 | ⟨_,_,_,l⟩,w,v,bl,h=>by
  rw [FT] at h
  rcases h with ⟨_,_,rfl⟩ | ⟨g,inner,bs,hv,rfl,ho,hl⟩
  ·intro k hk;cases hk
  ·intro k hk
   rcases List.mem_cons.1 hk with rfl | hk
   ·exact ⟨own_lt ho _ hv,own_base ho _ hv⟩
   ·exact LT_lt B l w inner bs hl k hk
theorem LT_lt (B:Nat):∀ (l:List File) (w:World) (inner:List Value) (bs:List Nat),LT B l w inner bs→∀ k∈bs,k<w.heap.size∧B≤k
 | [],w,inner,bs,h=>by
  rw [LT] at h
  obtain ⟨_,rfl⟩:=h
  intro k hk;cases hk
 | x :: l,w,inner,bs,h=>by
  rw [LT] at h
  obtain ⟨v,bx,br,rest,h1,rfl,h3,h4⟩:=h
  intro k hk
  rcases List.mem_append.1 hk with hk | hk
  ·exact FT_lt B x w v bx h3 k hk
  ·exact LT_lt B l w rest br h4 k hk
end
theorem LT_get (B:Nat):∀ (l:List File) (w:World) (inner:List Value) (bs:List Nat) (j:Nat) (x:File),LT B l w inner bs→l[j]? = some x →
  ∃ v bx b1 b2,inner[j * 4]? = some (.string x.name)∧inner[j * 4+1]? = some (.int .u8 x.kind)∧inner[j * 4+2]? = some (.string x.data)∧inner[j * 4+3]? = some v∧FT B x w v bx∧bs=b1++(bx++b2) ∧
   ∀ (w':World) (v':Value) (x':File) (bx':List Nat),(∀ k∈b1++b2,w'.heap[k]? = w.heap[k]?)→FT B x' w' v' bx'→x'.name=x.name→x'.kind=x.kind→x'.data=x.data→LT B (l.set j x') w' (inner.set (j * 4+3) v') (b1++(bx'++b2))
 | [],w,inner,bs,j,x,h,hj=>by simp at hj
 | y :: l,w,inner,bs,0,x,h,hj=>by
  obtain rfl:y=x:=by simpa using hj
  rw [LT] at h
  obtain ⟨v,bx,br,rest,rfl,rfl,h3,h4⟩:=h
  refine ⟨v,bx,[],br,rfl,rfl,rfl,rfl,h3,rfl,fun w' v' x' bx' hm hx' e1 e2 e3 => ?_⟩
  show LT B (x' :: l) w' (.string y.name :: .int .u8 y.kind :: .string y.data :: v' :: rest) (bx'++br)
  rw [LT]
  exact ⟨v',bx',br,rest,by rw [e1,e2,e3],rfl,hx',LT_move B l w w' rest br h4 fun k hk=>hm k (by simpa using hk)⟩
 | y :: l,w,inner,bs,j+1,x,h,hj=>by
  rw [LT] at h
  obtain ⟨v,bx,br,rest,rfl,rfl,h3,h4⟩:=h
  obtain ⟨v1,bx1,b1,b2,c0,c1,c2,c3,hf,rfl,hu⟩:=LT_get B l w rest br j x h4 (by simpa using hj)
  have hj4:(j+1) * 4=j * 4+4:=by omega
  refine ⟨v1,bx1,bx++b1,b2,by rw [hj4];exact c0,by rw [hj4];exact c1,by rw [hj4];exact c2,by rw [hj4];exact c3,hf,by simp,fun w' v' x' bx' hm hx' e1 e2 e3 => ?_⟩
  have h5:=hu w' v' x' bx' (fun k hk=>hm k (by simp at hk ⊢;rcases hk with hk | hk;exact .inr (.inl hk);exact .inr (.inr hk))) hx' e1 e2 e3
  rw [hj4]
  show LT B (y :: l.set j x') w' (.string y.name :: .int .u8 y.kind :: .string y.data :: v :: rest.set (j * 4+3) v') _
  rw [LT]
  refine ⟨v,bx,b1++(bx'++b2),_,rfl,by simp,FT_move B y w w' v bx h3 fun k hk=>hm k (by simp [hk]),h5⟩
theorem LT_push (B:Nat):∀ (l:List File) (w:World) (inner:List Value) (bs:List Nat) (z:File),LT B l w inner bs→z.files=[]→LT B (l++[z]) w (inner++[.string z.name,.int .u8 z.kind,.string z.data,.slice none 0 0]) bs
 | [],w,inner,bs,z,h,hz=>by
  rw [LT] at h
  obtain ⟨rfl,rfl⟩:=h
  show LT B (z :: []) w _ _
  rw [LT]
  exact ⟨.slice none 0 0,[],[],[],rfl,rfl,by rw [FT_eq];exact .inl ⟨hz,rfl,rfl⟩,by rw [LT];exact ⟨rfl,rfl⟩⟩
 | x :: l,w,inner,bs,z,h,hz=>by
  rw [LT] at h
  obtain ⟨v,bx,br,rest,rfl,rfl,h3,h4⟩:=h
  show LT B (x :: (l++[z])) w _ _
  rw [LT]
  exact ⟨v,bx,br,rest++_,rfl,rfl,h3,LT_push B l w rest br z h4 hz⟩
mutual
theorem FT_reads (B:Nat):∀ (x:File) (w:World) (v:Value) (bl:List Nat),FT B x w v bl→∃ A c,v=.slice A x.files.length c∧x.files.length≤c∧FileK.C w A x.files.length x.files
 | ⟨n,k,d,l⟩,w,v,bl,h=>by
  rw [FT] at h
  rcases h with ⟨h1,rfl,_⟩ | ⟨g,inner,bs,hv,rfl,ho,hl⟩
  ·simp only at h1 ⊢
   subst h1
   exact ⟨none,0,rfl,Nat.le_refl _,Kd.C_nil FileK _⟩
  ·have hh:=LT_reads B l w inner bs hl
   rcases ho.2 with ⟨hv0,_⟩ | ⟨g',cap,cur,hvv,hb,hg,hnc,hcm,hcs,htake⟩
   ·rw [hv0] at hv
    simp [Value.ownBlock] at hv
   ·refine ⟨some ⟨g',0,none⟩,cap,hvv,hnc,rfl,by simp only [maxLen] at hcm;show l.length≤_;omega,fun _=>⟨_,rfl,fun j p hj => ?_⟩⟩
    obtain ⟨cs,hl4,hK,hc⟩:=hh j p hj
    refine ⟨cs,hl4,hK,fun i u hu => ?_⟩
    exact ho.cells (g:=g') (by rw [hvv];rfl) (j * 4+i) u (hc i u hu)
theorem LT_reads (B:Nat):∀ (l:List File) (w:World) (inner:List Value) (bs:List Nat),LT B l w inner bs→∀ j p,l[j]? = some p→∃ cs:List Value,cs.length=4∧FileK.K w p cs∧∀ i u,cs[i]? = some u→inner[j * 4+i]? = some u
 | [],w,inner,bs,h,j,p,hj=>by simp at hj
 | x :: l,w,inner,bs,h,0,p,hj=>by
  obtain rfl:x=p:=by simpa using hj
  rw [LT] at h
  obtain ⟨v,bx,br,rest,rfl,rfl,h3,h4⟩:=h
  obtain ⟨A,c,rfl,hc,hC⟩:=FT_reads B x w v bx h3
  refine ⟨_,rfl,file_mk w x hc hC,fun i u hu => ?_⟩
  rw [Nat.zero_mul,Nat.zero_add]
  have hi:i<4:=(List.getElem?_eq_some_iff.1 hu).1
  rw [← hu]
  match i,hi with
  | 0,_=>rfl
  | 1,_=>rfl
  | 2,_=>rfl
  | 3,_=>rfl
 | x :: l,w,inner,bs,h,j+1,p,hj=>by
  rw [LT] at h
  obtain ⟨v,bx,br,rest,rfl,rfl,h3,h4⟩:=h
  obtain ⟨cs,h1,h2,h5⟩:=LT_reads B l w rest br h4 j p (by simpa using hj)
  refine ⟨cs,h1,h2,fun i u hu => ?_⟩
  rw [show (j+1) * 4+i=(j * 4+i)+4 by omega]
  exact h5 i u hu
end
theorem own_set {B g n j:Nat} {v u:Value} {w w':World} {inner:List Value} (h:w.ownsRow B 25 4 v n inner) (hv:v.ownBlock=some g) (hj:j<inner.length) (hg:w'.heap[g]? = (w.setCell ⟨g,j,none⟩ u).heap[g]?):w'.ownsRow B 25 4 v n (inner.set j u):=by
 rcases h.2 with ⟨hv0,_⟩ | ⟨g',cap,cur,hvv,hb,hg2,hnc,hcm,hcs,htake⟩
 ·rw [hv0] at hv
  simp [Value.ownBlock] at hv
 ·subst hvv
  injection hv with hv
  subst hv
  refine own_move (h.stored j u).1 fun k hk => ?_
  injection hk with hk
  subst hk
  exact hg
def putP:File→List ByteArray→File→File
 | _,[],y=>y
 | f,n :: p,y=>match f.files[lowB f.files n]? with
  | some x=>{f with files:=f.files.set (lowB f.files n) (putP x p y)}
  | none=>f
def Turned (B:Nat) (x:File) (p:List ByteArray) (w:World) (v:Value) (bl:List Nat) (g o:Nat) (y:File) (by_:List Nat):Prop :=
 ∀ (w':World) (v'':Value) (y':File) (by':List Nat),(∀ k∈bl,k≠g→k ∉ by_→w'.heap[k]? = w.heap[k]?)→w'.heap[g]? = (w.setCell ⟨g,o+3,none⟩ v'').heap[g]? → FT B y' w' v'' by' →
  y'.name=y.name→y'.kind=y.kind→y'.data=y.data→by'.Nodup→(∀ k∈by',k∈by_∨k ∉ bl)→∃ bl',FT B (putP x p y') w' v bl'∧bl'.Nodup∧∀ k∈bl',k∈bl∨k∈by'
theorem nodup_swap {g:Nat} {b1 bx b2 bz:List Nat} (h:(g :: (b1++(bx++b2))).Nodup) (hy:bz.Nodup) (hs:∀ k∈bz,k∈bx∨k ∉ g :: (b1++(bx++b2))):(g :: (b1++(bz++b2))).Nodup:=by
 rw [List.nodup_cons] at h ⊢
 obtain ⟨hg,h⟩:=h
 rw [List.nodup_append] at h ⊢
 obtain ⟨h1,h2,h3⟩:=h
 rw [List.nodup_append] at h2 ⊢
 obtain ⟨h4,h5,h6⟩:=h2
 have hz:∀ k∈bz,k≠g∧k ∉ b1∧k ∉ b2:=by
  intro k hk
  rcases hs k hk with h | h
  ·exact ⟨fun e=>hg (by rw [← e];simp [h]),fun e=>h3 k e k (by simp [h]) rfl,fun e=>h6 k h k e rfl⟩
  ·simp only [List.mem_cons,List.mem_append,not_or] at h
   exact ⟨h.1,h.2.1,h.2.2.2⟩
 refine ⟨fun h => ?_,h1,⟨hy,h5,fun a ha b hb e=>(hz a ha).2.2 (e ▸ hb)⟩,fun a ha b hb e => ?_⟩
 ·simp only [List.mem_append] at h hg
  rcases h with h | h | h
  ·exact hg (.inl h)
  ·exact (hz g h).1 rfl
  ·exact hg (.inr (.inr h))
 ·subst e
  rcases List.mem_append.1 hb with hb | hb
  ·exact (hz a hb).2.1 ha
  ·exact h3 a ha a (List.mem_append_right _ hb) rfl
theorem putP_keep:∀ (f:File) (n:ByteArray) (p:List ByteArray) (y:File),(putP f (n :: p) y).name=f.name∧(putP f (n :: p) y).kind=f.kind∧(putP f (n :: p) y).data=f.data:=by
 intro f n p y
 rw [putP]
 split <;> exact ⟨rfl,rfl,rfl⟩
theorem own_addr {B g n:Nat} {b:Addr} {c m:Nat} {w:World} {inner:List Value} (h:w.ownsRow B 25 4 (.slice (some b) m c) n inner) (hv:(Value.slice (some b) m c).ownBlock=some g):b=⟨g,0,none⟩:=by
 rcases h.2 with ⟨hv0,_⟩ | ⟨g',cap,cur,hvv,_⟩
 ·cases hv0
 ·injection hvv with h1 _ _
  injection h1 with h1
  subst h1
  injection hv with hv
  subst hv
  rfl
theorem add_at4 (g k:Nat):(⟨g,0,none⟩:Addr).add k=⟨g,k,none⟩:=by
 simp [Addr.add]
 omega
theorem focus (B:Nat) (w:World):∀ (p:List ByteArray) (n:ByteArray) (x:File) (ad ad':Addr) (y:File) (v:Value) (bl:List Nat),w.cell? ⟨ad.block,ad.off+3,none⟩=some v→FT B x w v bl→bl.Nodup→Reach w ad x (n :: p) ad' y →
  ∃ (g o:Nat) (v':Value) (by_:List Nat),ad'=⟨g,o,none⟩∧g∈bl∧w.cell? ⟨g,o+3,none⟩=some v'∧FT B y w v' by_∧(∀ k∈by_,k∈bl∧k≠g)∧by_.Nodup∧Turned B x (n :: p) w v bl g o y by_:=by
 intro p
 induction p with
 | nil =>
  intro n x ad ad' y v bl hc hF hN ⟨b,c,x1,hb,hx,had,hy⟩
  subst hy
  rw [hb] at hc
  injection hc with hc
  subst hc
  rw [FT_eq] at hF
  rcases hF with ⟨h0,_,_⟩ | ⟨g,inner,bs,hv,rfl,ho,hL⟩
  ·rw [h0] at hx;simp at hx
  ·obtain rfl:=own_addr ho hv
   obtain ⟨v1,bx,b1,b2,c0,c1,c2,c3,hf,rfl,hu⟩:=LT_get B x.files w inner bs _ _ hL hx
   generalize hi:lowB x.files n=i at *
   have hcell:=ho.cells (g:=g) rfl (i * 4+3) v1 c3
   rw [add_at4] at hcell had
   have hgn:=(List.nodup_cons.1 hN).1
   have hlt:i * 4+3<inner.length:=(List.getElem?_eq_some_iff.1 c3).1
   refine ⟨g,i * 4,v1,bx,had,List.mem_cons_self,hcell,hf,fun k hk=>⟨by simp [hk],fun e=>hgn (by rw [← e];simp [hk])⟩,(List.nodup_append.1 (List.nodup_append.1 (List.nodup_cons.1 hN).2).2.1).1,?_⟩
   intro w' v'' y' bz hm hg hF' e1 e2 e3 hN' hsub
   refine ⟨g :: (b1++(bz++b2)),?_,nodup_swap hN hN' hsub,fun k hk => ?_⟩
   ·rw [putP,hi,hx]
    simp only [putP]
    rw [FT_eq]
    refine .inr ⟨g,inner.set (i * 4+3) v'',b1++(bz++b2),hv,rfl,?_,hu w' v'' y' bz (fun k hk => ?_) hF' e1 e2 e3⟩
    ·simp only [List.length_set]
     exact own_set ho hv hlt hg
    ·refine hm k ?_ (fun e=>hgn ?_) (fun hkx => ?_)
     ·simp only [List.mem_cons,List.mem_append] at hk ⊢
      rcases hk with hk | hk
      ·exact .inr (.inl hk)
      ·exact .inr (.inr (.inr hk))
     ·rw [← e]
      simp only [List.mem_append] at hk ⊢
      rcases hk with hk | hk
      ·exact .inl hk
      ·exact .inr (.inr hk)
     ·have h1:=List.nodup_append.1 (List.nodup_cons.1 hN).2
      rcases List.mem_append.1 hk with hk | hk
      ·exact h1.2.2 k hk k (by simp [hkx]) rfl
      ·exact (List.nodup_append.1 h1.2.1).2.2 k hkx k hk rfl
   ·simp only [List.mem_cons,List.mem_append] at hk ⊢
    rcases hk with hk | hk | hk | hk
    ·exact .inl (.inl hk)
    ·exact .inl (.inr (.inl hk))
    ·exact .inr hk
    ·exact .inl (.inr (.inr (.inr hk)))
 | cons n2 p ih =>
  intro n x ad ad' y v bl hc hF hN ⟨b,c,x1,hb,hx,hre⟩
  rw [hb] at hc
  injection hc with hc
  subst hc
  rw [FT_eq] at hF
  rcases hF with ⟨h0,_,_⟩ | ⟨g,inner,bs,hv,rfl,ho,hL⟩
  ·rw [h0] at hx;simp at hx
  ·obtain rfl:=own_addr ho hv
   obtain ⟨v1,bx,b1,b2,c0,c1,c2,c3,hf,rfl,hu⟩:=LT_get B x.files w inner bs _ _ hL hx
   generalize hi:lowB x.files n=i at *
   have hcell:=ho.cells (g:=g) rfl (i * 4+3) v1 c3
   rw [add_at4] at hcell hre
   have hgn:=(List.nodup_cons.1 hN).1
   have h1:=List.nodup_append.1 (List.nodup_cons.1 hN).2
   have h2:=List.nodup_append.1 h1.2.1
   obtain ⟨g2,o2,v2,by2,had,hg2,hc2,hf2,hb2,hn2,hT⟩:=ih n2 x1 ⟨g,i * 4,none⟩ ad' y v1 bx hcell hf h2.1 hre
   have hg2g:g2≠g:=fun e=>hgn (by rw [← e];simp [hg2])
   refine ⟨g2,o2,v2,by2,had,by simp [hg2],hc2,hf2,fun k hk=>⟨by simp [(hb2 k hk).1],(hb2 k hk).2⟩,hn2,?_⟩
   intro w' v'' y' bz hm hg hF' e1 e2 e3 hN' hsub
   obtain ⟨bx',hx',hxn,hxs⟩:=hT w' v'' y' bz (fun k hk=>hm k (by simp [hk])) hg hF' e1 e2 e3 hN' (fun k hk=>(hsub k hk).imp id fun h hkx=>h (by simp [hkx]))
   have hxsub:∀ k∈bx',k∈bx∨k ∉ g :: (b1++(bx++b2)):=fun k hk=>by
    rcases hxs k hk with h | h
    ·exact .inl h
    ·rcases hsub k h with h | h
     ·exact .inl (hb2 k h).1
     ·exact .inr h
   have hgx:w'.heap[g]? = w.heap[g]? := hm g List.mem_cons_self (Ne.symm hg2g) (fun e=>hgn (by simp [(hb2 g e).1]))
   obtain ⟨k1,k2,k3⟩:=putP_keep x1 n2 p y'
   have hl:=hu w' v1 (putP x1 (n2 :: p) y') bx' (fun k hk=>by
    have hkbx:k ∉ bx:=fun hkx=>by
     rcases List.mem_append.1 hk with hk | hk
     ·exact h1.2.2 k hk k (by simp [hkx]) rfl
     ·exact h2.2.2 k hkx k hk rfl
    refine hm k ?_ (fun e=>hkbx (e ▸ hg2)) (fun e=>hkbx (hb2 k e).1)
    simp only [List.mem_cons,List.mem_append] at hk ⊢
    rcases hk with hk | hk
    ·exact .inr (.inl hk)
    ·exact .inr (.inr (.inr hk))) hx' k1 k2 k3
   have hset:inner.set (i * 4+3) v1=inner:=by
    apply List.ext_getElem?
    intro j
    rw [List.getElem?_set]
    split
    ·rename_i e
     subst e
     rw [if_pos (List.getElem?_eq_some_iff.1 c3).1,c3]
    ·rfl
   rw [hset] at hl
   refine ⟨g :: (b1++(bx'++b2)),?_,nodup_swap hN hxn hxsub,fun k hk => ?_⟩
   ·rw [putP,hi,hx]
    simp only
    rw [FT_eq]
    refine .inr ⟨g,inner,b1++(bx'++b2),hv,rfl,?_,hl⟩
    simp only [List.length_set]
    refine own_move ho fun k hk => ?_
    injection hk with hk
    subst hk
    exact hgx
   ·simp only [List.mem_cons,List.mem_append] at hk ⊢
    rcases hk with hk | hk | hk | hk
    ·exact .inl (.inl hk)
    ·exact .inl (.inr (.inl hk))
    ·rcases hxs k hk with h | h
     ·exact .inl (.inr (.inr (.inl h)))
     ·exact .inr h
    ·exact .inl (.inr (.inr (.inr hk)))
end Go.Proofs.YtdnhjnlhmfajnaaGreatDoor.G
end
section
namespace Go.Proofs.YtdnhjnlhmfajnaaGreatDoor.G
open Go.RowKit Go.Lib Go.Proofs.YtdnhjnlhmfajnaaGreatDoorW.PrintWords Go.Proofs.YtdnhjnlhmfajnaaGreatDoorW.PrintLast
set_option linter.unusedVariables false
def dirO (f:File) (p:List ByteArray):Option File:=if p=[] then none else match goP f p.dropLast with
 | (_,some y)=>if y.kind=1 then some y else none
 | (_,none)=>none
set_option maxHeartbeats 4000000 in
set_option maxRecDepth 100000 in
theorem dir_calls (f:File) (ad:Addr) (A:Option Addr) (c:Nat) (Ap:Option Addr) (cp:Nat) (p:List ByteArray) (w:World) (hf:FileAt w ad f A c) (hbk:f.bulk≤1099511627776) (hs:SortF f) (hp:Kd.C Kd.string w Ap p.length p) (hcp:p.length≤cp) (hpl:p.length≤1099511627776) :
  Calls Tryz.prog 50 #[.pointer (some ad),.slice Ap p.length cp] w fun e w'=>Below w.heap.size w w'∧((∃ ad' y A' c',p≠[]∧dirO f p=some y∧goP f p.dropLast=(0,some y)∧y.kind=1∧e=.returned (.pointer (some ad'))∧FileAt w ad' y A' c'∧Reach w ad f p.dropLast ad' y)∨(dirO f p=none∧e=.returned (.pointer none))):=by
 by_cases h0:p=[]
 ·subst h0
  have HD:Hid (dirO f []=none):=Lib.hid rfl
  go_enter Tryz.func50,Tryz.ntmps50
  go_wp2_with fail
  go_ret
  exact ⟨Below.refl _ _,.inr ⟨HD.out,rfl⟩⟩
 ·have hpos:0<p.length:=List.length_pos_iff.2 h0
  obtain ⟨q,hq⟩:∃ q,p.dropLast=q:=⟨_,rfl⟩
  have hql:p.length=q.length+1:=by rw [← hq,List.length_dropLast];omega
  have HGC:=Lib.hid (get_calls f ad A c Ap cp q w hf hbk hs (by
   have h1:=Kd.C_take hp (m:=p.length - 1) (by omega)
   rw [← List.dropLast_eq_take,hq] at h1
   exact h1) (by omega) (by omega))
  have HD:Hid (dirO f p=match goP f q with | (_,some y)=>if y.kind=1 then some y else none | (_,none)=>none):=Lib.hid (by rw [dirO,if_neg h0,hq])
  rw [hq]
  have H0:=Lib.hid h0
  rw [hql] at hcp hpl ⊢
  have hk1:((q.length:Int)+1 - 1)=(q.length:Int):=by omega
  clear hp h0 hpos
  have HQL:=Lib.hid hql
  clear hql hq
  go_enter Tryz.func50,Tryz.ntmps50
  go_wp2_with fail
  refine HGC.out.mono ?_
  rintro e w1 ⟨hb,⟨ad',y,A',c',hgo,rfl,hat,hre,_,_⟩ | ⟨k,hk0,hgo,rfl⟩⟩
  ·have hd:=HD.out
   rw [hgo] at hd
   simp only at hd
   have x1:=(hb.cell (World.block_lt_of_cell? w _ hat.c1)).trans hat.c1
   by_cases hk:y.kind=1
   ·rw [if_pos hk] at hd
    have HDD:=Lib.hid hd
    clear hd
    go_wp2_with fail
    go_ret
    exact ⟨hb,.inl ⟨ad',y,A',c',H0.out,HDD.out,hgo,hk,rfl,hat,hre⟩⟩
   ·rw [if_neg hk] at hd
    have k1:(y.kind != 1)=true:=by rw [bne_iff_ne];exact hk
    have HDD:=Lib.hid hd
    clear hd hk
    go_wp2_with fail
    go_ret
    exact ⟨hb,.inr ⟨HDD.out,rfl⟩⟩
  ·have hd:=HD.out
   rw [hgo] at hd
   simp only at hd
   have k1:(k != 0)=true:=by rw [bne_iff_ne];exact hk0
   have HDD:=Lib.hid hd
   clear hd hk0 hgo
   go_wp2_with fail
   go_ret
   exact ⟨hb,.inr ⟨HDD.out,rfl⟩⟩
end Go.Proofs.YtdnhjnlhmfajnaaGreatDoor.G
end
end
