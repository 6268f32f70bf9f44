import Derived.Test.YthlcjjhfkldmhaaGreatDoorTFind
import Derived.Test.YthlcjjhfkldmhaaGreatDoorTRight
import Derived.Laws.ResultCell
import Derived.Test.YthlcjjhfkldmhaaGreatDoorKit
import Derived.Test.YthlcjjhfkldmhaaGreatDoorSq
set_option linter.unusedVariables false
set_option linter.unusedSimpArgs false
section
namespace Go.Proofs.YthlcjjhfkldmhaaGreatDoor.G
open Go.RowKit Go.Lib Go.Proofs.YthlcjjhfkldmhaaGreatDoorW.PrintWords Go.Proofs.YthlcjjhfkldmhaaGreatDoorW.PrintLast
set_option linter.unusedVariables false
mutual
def SortF:File→Prop
 | ⟨_,_,_,l⟩=>SortedN l∧SortL l
def SortL:List File→Prop
 | []=>True
 | x :: l=>SortF x∧SortL l
end
theorem SortF_eq (f:File):SortF f=(SortedN f.files∧SortL f.files):=by cases f;rw [SortF]
theorem SortL_mem:∀ {l:List File},SortL l↔∀ x∈l,SortF x
 | []=>by simp [SortL]
 | x :: l=>by rw [SortL,SortL_mem];simp
def goP:File→List ByteArray→Int×Option File
 | f,[]=>(0,some f)
 | f,n :: p=>if f.kind=1 then (match f.files[lowB f.files n]? with | some x=>if x.name.toList == n.toList then goP x p else (31,none) | none=>(31,none)) else (32,none)
structure FileAt (w:World) (ad:Addr) (f:File) (A:Option Addr) (c:Nat):Prop where
 c0:w.cell? ad=some (.string f.name)
 c1:w.cell? ⟨ad.block,ad.off+1,none⟩=some (.int .u8 f.kind)
 c2:w.cell? ⟨ad.block,ad.off+2,none⟩=some (.string f.data)
 c3:w.cell? ⟨ad.block,ad.off+3,none⟩=some (.slice A f.files.length c)
 le:f.files.length≤c
 ch:FileK.C w A f.files.length f.files
def Reach (w:World):Addr→File→List ByteArray→Addr→File→Prop
 | ad,f,[],ad',y=>ad'=ad∧y=f
 | ad,f,n :: p,ad',y=>∃ (b:Addr) (c:Nat) (x:File),w.cell? ⟨ad.block,ad.off+3,none⟩=some (.slice (some b) f.files.length c)∧f.files[lowB f.files n]? = some x∧Reach w (b.add (lowB f.files n * 4)) x p ad' y
theorem Reach_snoc {w:World} {n:ByteArray}:∀ {p:List ByteArray} {ad:Addr} {f:File} {ad1:Addr} {y1:File} {b:Addr} {c:Nat} {x:File},Reach w ad f p ad1 y1→w.cell? ⟨ad1.block,ad1.off+3,none⟩=some (.slice (some b) y1.files.length c)→y1.files[lowB y1.files n]? = some x→Reach w ad f (p++[n]) (b.add (lowB y1.files n * 4)) x
 | [],ad,f,ad1,y1,b,c,x,⟨h1,h2⟩,hc,hx=>by subst h1;subst h2;exact ⟨b,c,x,hc,hx,rfl,rfl⟩
 | _ :: p,ad,f,ad1,y1,b,c,x,⟨b',c',x',h1,h2,h3⟩,hc,hx=>⟨b',c',x',h1,h2,Reach_snoc h3 hc hx⟩
set_option maxHeartbeats 4000000 in
set_option maxRecDepth 100000 in
theorem get_calls (f:File) (ad:Addr) (A:Option Addr) (c:Nat) (Ap:Option Addr) (cp:Nat) (p:List ByteArray) (w:World) (hf:FileAt w ad f A c) (hbk:f.bulk≤1099511627776) (hs:SortF f) (hp:Kd.C Kd.string w Ap p.length p) (hcp:p.length≤cp) (hpl:p.length≤1099511627776) :
  Calls Tryz.prog 125 #[.pointer (some ad),.slice Ap p.length cp] w fun e w'=>Below w.heap.size w w'∧((∃ ad' y A' c',goP f p=(0,some y)∧e=.returned (.tuple #[.pointer (some ad'),.int .i64 0])∧FileAt w ad' y A' c'∧Reach w ad f p ad' y∧y.bulk≤f.bulk∧SortF y)∨(∃ k,k≠0∧goP f p=(k,none)∧e=.returned (.tuple #[.pointer none,.int .i64 k]))):=by
 have HP:=Lib.hid hp
 have HFS:=Lib.hid (fun (A:Option Addr) (c:Nat) (l:List File) n W h1 h2 h3 h4=>find_calls A c l n W h1 h2 h3 h4)
 clear hp
 go_enter Tryz.func125,Tryz.ntmps125
 go_wp2_with fail
 go_loopw [0,12] (fun vt vi wr=>∃ (k:Nat) (ad1:Addr) (y:File) (A1:Option Addr) (c1:Nat),k≤p.length∧vt=.pointer (some ad1)∧vi=.int .i64 k∧Below w.heap.size w wr∧Hid (FileAt w ad1 y A1 c1)∧Hid (Reach w ad f (p.take k) ad1 y)∧Hid (goP f p=goP y (p.drop k))∧y.bulk≤f.bulk∧Hid (SortF y)) (fun _ vi _=>p.length - (RowKit.intOf vi).toNat)
 case atStart=>exact ⟨0,ad,f,A,c,by omega,rfl,rfl,Below.refl _ _,Lib.hid hf,Lib.hid ⟨rfl,rfl⟩,Lib.hid rfl,Nat.le_refl _,Lib.hid hs⟩
 case round =>
  obtain ⟨k,ad1,y,A1,c1,hk,rfl,rfl,hb,HA,HRe,HG,hyb,HS⟩:=hrel
  by_cases hlt:k<p.length
  ·obtain ⟨pad,rfl,hx⟩:=Kd.at_string HP.out (k:Int) (by omega) (by omega)
   rw [Int.toNat_natCast] at hx
   have he:rdOf ByteArray.empty p (k:Int)=p[k]:=by simp [rdOf,hlt]
   rw [he] at hx
   have hx':=(hb.cell (World.block_lt_of_cell? w _ hx)).trans hx
   have q1:=(hb.cell (World.block_lt_of_cell? w _ HA.out.c1)).trans HA.out.c1
   have q3:=(hb.cell (World.block_lt_of_cell? w _ HA.out.c3)).trans HA.out.c3
   have hdr:p.drop k=p[k] :: p.drop (k+1):=List.drop_eq_getElem_cons hlt
   have htk:p.take (k+1)=p.take k++[p[k]]:=List.take_succ_eq_append_getElem hlt
   have hgo:=HG.out
   rw [hdr,goP] at hgo
   have HTK:=Lib.hid htk
   clear he hx hdr htk HG
   generalize p[k]=n at *
   have g1:(k:Int)<(p.length:Int):=by omega
   by_cases hk1:y.kind=1
   ·rw [if_pos hk1] at hgo
    have hye:=bulk_eq y
    have hyl:=bulkL_len y.files
    have hss:=HS.out
    rw [SortF_eq] at hss
    have HFI:=Lib.hid (HFS.out A1 c1 y.files n wr (Kd.C_below HA.out.ch hb) HA.out.le (by omega) hss.1)
    have HFD:Hid (foundB y.files n=match y.files[lowB y.files n]? with | some x=>x.name.toList == n.toList | none=>false):=Lib.hid rfl
    have HGO:=Lib.hid hgo
    have HSS:=Lib.hid hss.2
    clear hgo hss hye hyl
    go_wp2_with fail
    refine HFI.out.mono ?_
    rintro e w1 ⟨rfl,hb1⟩
    have hb':=bstep hb hb.size hb1
    have hlw:=low_le y.files n
    clear q1 q3 hx'
    have q3:=(hb'.cell (World.block_lt_of_cell? w _ HA.out.c3)).trans HA.out.c3
    obtain ⟨i,hi⟩:∃ i,lowB y.files n=i:=⟨_,rfl⟩
    rw [hi] at HGO HFD hlw ⊢
    have HIL:=Lib.hid hi
    clear hi
    cases hfb:foundB y.files n
    ·have hgo:=HGO.out
     have hfd:=HFD.out
     rw [hfb] at hfd
     have hg31:goP f p=(31,none):=by
      rw [hgo]
      cases hx:y.files[i]? with
      | none=>rfl
      | some x=>rw [hx] at hfd;simp only at hfd ⊢;rw [if_neg (by rw [← hfd];decide)]
     clear hgo hfd
     go_wp2_with fail
     go_ret2
     exact ⟨hb',.inr ⟨31,by decide,hg31,rfl⟩⟩
    ·have hgo:=HGO.out
     have hfd:=HFD.out
     rw [hfb] at hfd
     have hil:i<y.files.length:=by
      rcases Nat.lt_or_ge i y.files.length with h | h
      ·exact h
      ·rw [List.getElem?_eq_none h] at hfd
       cases hfd
     have hge:=List.getElem?_eq_getElem hil
     rw [hge] at hgo hfd
     simp only at hgo hfd
     rw [if_pos hfd.symm] at hgo
     obtain ⟨b,A',c',rfl,p1,p2,p3,p4,hc',hC'⟩:=file_at HA.out.ch i hil
     have hmem:=List.getElem_mem hil
     have HAN:Hid (FileAt w (b.add (i * 4)) y.files[i] A' c'):=Lib.hid ⟨p1,p2,p3,p4,hc',hC'⟩
     have HRN:Hid (Reach w ad f (p.take (k+1)) (b.add (i * 4)) y.files[i]):=Lib.hid (by have hsn:=Reach_snoc (n:=n) HRe.out HA.out.c3 (by rw [HIL.out];exact hge);rw [HIL.out] at hsn;rw [HTK.out];exact hsn)
     have hbb:y.files[i].bulk≤f.bulk:=by have:=bulk_child hmem;omega
     have HSN:Hid (SortF y.files[i]):=Lib.hid (SortL_mem.1 HSS.out _ hmem)
     have HGN:=Lib.hid hgo
     clear hgo hfd hge p1 p2 p3 p4 hC' hmem HGO
     generalize y.files[i]=x at *
     have g2:(i:Int)<(y.files.length:Int):=by omega
     go_wp2_with fail
     go_roundw
     case rel=>exact ⟨k+1,b.add (i * 4),x,A',c',by omega,by go_num,by go_num,hb',HAN,HRN,HGN,hbb,HSN⟩
     case measure=>simp [RowKit.intOf];omega
   ·rw [if_neg hk1] at hgo
    have k1:(y.kind != 1)=true:=by rw [bne_iff_ne];exact hk1
    go_wp2_with fail
    go_ret2
    exact ⟨hb,.inr ⟨32,by decide,hgo,rfl⟩⟩
  ·obtain rfl:k=p.length:=by omega
   rw [List.drop_length] at HG
   rw [List.take_length] at HRe
   go_wp2_with fail
   go_ret2
   exact ⟨hb,.inl ⟨ad1,y,A1,c1,by rw [HG.out,goP],rfl,HA.out,HRe.out,hyb,HS.out⟩⟩
theorem wrongL_none (rec:File→List ByteArray→Option (List ByteArray)) (p:List ByteArray):∀ (l:List File) (prev:Option ByteArray),wrongL rec p prev l=none →
  (∀ y,prev=some y→∀ x∈l,lessB y x.name=true)∧SortedN l∧∀ x∈l,rec x (p++[x.name])=none
 | [],prev,_=>⟨fun _ _ x hx=>(by cases hx),List.Pairwise.nil,fun x hx=>(by cases hx)⟩
 | x :: l,prev,h=>by
  rw [wrongL] at h
  by_cases hb:badF prev (p++[x.name]) x=true
  ·rw [if_pos hb] at h
   cases h
  ·rw [if_neg hb] at h
   cases hr:rec x (p++[x.name]) with
   | some b=>rw [hr] at h;cases h
   | none =>
    rw [hr] at h
    obtain ⟨h1,h2,h3⟩:=wrongL_none rec p l (some x.name) h
    have hx:=h1 x.name rfl
    have hp:∀ y,prev=some y→lessB y x.name=true:=by
     rintro y rfl
     cases hl:lessB y x.name
     ·exact absurd (by simp [badF,prevGe,geB,show Op.bytesLess y.toList x.name.toList=false from hl]) hb
     ·rfl
    refine ⟨fun y hy z hz => ?_,List.pairwise_cons.2 ⟨hx,h2⟩,fun z hz => ?_⟩
    ·rcases List.mem_cons.1 hz with rfl | hz
     ·exact hp y hy
     ·exact less_trans (hp y hy) (hx z hz)
    ·rcases List.mem_cons.1 hz with rfl | hz
     ·exact hr
     ·exact h3 z hz
theorem wrongN_sort:∀ (n:Nat) (f:File) (p:List ByteArray),f.bulk≤n→wrongN n f p=none→SortF f
 | 0,f,p,h,_=>by have:=bulk_eq f;omega
 | n+1,f,p,h,hw=>by
  obtain ⟨_,h2,h3⟩:=wrongL_none (wrongN n) p f.files none hw
  rw [SortF_eq]
  refine ⟨h2,SortL_mem.2 fun x hx=>wrongN_sort n x _ (by have:=bulk_child hx;omega) (h3 x hx)⟩
theorem right_sort {f:File} (h:rightT f=true):SortF f:=by
 have h1:(checkR f).1=0:=by simpa [rightT] using h
 unfold checkR at h1
 by_cases hc:f.kind=1∧f.name.toList.isEmpty=true∧f.data.toList.isEmpty=true
 ·rw [if_pos hc] at h1
  cases hw:wrongN f.bulk f [] with
  | none=>exact wrongN_sort _ _ _ (Nat.le_refl _) hw
  | some b=>rw [hw] at h1;simp [checkO] at h1
 ·rw [if_neg hc] at h1
  simp at h1
theorem results_ct {P:Program} {fn:Func} {p u:Tmp} {ty:TypeId} (h:fn.results=#[.cell p ty,.tmp u]) (tmps:Array Value) (w:World) (g:Nat) (t:TypeId) (cs:Array Value) (fr:Nat×Nat) (d:TypeDesc)
  (hp:tmps.getD p undef=.pointer (some ⟨g,0,none⟩)) (hg:w.heap[g]? = some (.cells cs t fr))
  (hu:P.underlying ty=some d) (hd:(match d with | .struct _ | .array _ _=>true | _=>false)=true) (hi:(P.info? ty).map (·.size)=some cs.size) :
  (results fn tmps).run P w=.ok (.tuple #[.agg cs,tmps.getD u undef]) w:=by
 rw [results_cell_tmp h tmps P w,hp]
 simp [asAddr,run_loadVar_row w g t ty cs fr d hg hu hd hi,Result.andThen]
def getR (f:File) (p:List ByteArray):File×Int:=if rightT f then (match goP f p with | (_,some y)=>(y,0) | (k,none)=>(zeroF,k)) else (zeroF,30)
end Go.Proofs.YthlcjjhfkldmhaaGreatDoor.G
end
section
section
namespace Go.Proofs.YthlcjjhfkldmhaaGreatDoor.G
open Go.RowKit Go.Lib Go.Proofs.YthlcjjhfkldmhaaGreatDoorW.PrintWords Go.Proofs.YthlcjjhfkldmhaaGreatDoorW.PrintLast
set_option linter.unusedVariables false
theorem store4_box {W:World} {g:Nat} {a b c d:Value} {t:TypeId} (h:W.heap[g]? = some (.cells #[a,b,c,d] t (0,0))) (v0 v1 v2 v3:Value) :
  ((((W.setCell ⟨g,0,none⟩ v0).setCell ⟨g,1,none⟩ v1).setCell ⟨g,2,none⟩ v2).setCell ⟨g,3,none⟩ v3).heap[g]? = some (.cells #[v0,v1,v2,v3] t (0,0)) :=
 blk_put (blk_put (blk_put (blk_put h 0 v0 rfl) 1 v1 rfl) 2 v2 rfl) 3 v3 rfl
theorem store4_other (W:World) {g k:Nat} (hk:k≠g) (v0 v1 v2 v3:Value) :
  ((((W.setCell ⟨g,0,none⟩ v0).setCell ⟨g,1,none⟩ v1).setCell ⟨g,2,none⟩ v2).setCell ⟨g,3,none⟩ v3).heap[k]? = W.heap[k]? := by
 rw [Below.heap_setCell _ _ _ _ hk,Below.heap_setCell _ _ _ _ hk,Below.heap_setCell _ _ _ _ hk,Below.heap_setCell _ _ _ _ hk]
theorem store4_below {B g:Nat} {a W:World} (h:Below B a W) (hg:B≤g) (v0 v1 v2 v3:Value) :
  Below B a ((((W.setCell ⟨g,0,none⟩ v0).setCell ⟨g,1,none⟩ v1).setCell ⟨g,2,none⟩ v2).setCell ⟨g,3,none⟩ v3) :=
 (((h.setCell (p:=⟨g,0,none⟩) hg v0).setCell (p:=⟨g,1,none⟩) hg v1).setCell (p:=⟨g,2,none⟩) hg v2).setCell (p:=⟨g,3,none⟩) hg v3
theorem unfr {W:World} {g:Nat} {cs:Array Value} {t:TypeId} (h:W.heap[g]? = some (.cells cs t (0,0))) (j:Nat):W.frozen? ⟨g,j,none⟩=false:=by simp [World.frozen?,h]
def nameIs (n:ByteArray) (x:File):Bool:=x.name.toList == n.toList
end Go.Proofs.YthlcjjhfkldmhaaGreatDoor.G
end
section
namespace Go.Proofs.YthlcjjhfkldmhaaGreatDoor.G
open Go.RowKit Go.Lib Go.Proofs.YthlcjjhfkldmhaaGreatDoorW.PrintWords Go.Proofs.YthlcjjhfkldmhaaGreatDoorW.PrintLast
set_option linter.unusedVariables false
set_option linter.unusedSimpArgs false
def findR:File→List ByteArray→File×Int
 | t,[]=>(t,0)
 | t,n :: p=>if t.kind=1 then (match t.files.find? (nameIs n) with | some x=>findR x p | none=>(zeroF,31)) else (zeroF,32)
theorem rf_at {l:List File} {n:ByteArray} {m:Nat} (h:m<l.length) (h0:∀ i (hi:i<l.length),i<m→nameIs n l[i]=false) (h1:nameIs n l[m]=true):l.find? (nameIs n)=some l[m]:=by
 rw [List.find?_eq_some_iff_getElem]
 exact ⟨h1,m,h,rfl,fun j hj=>by simp [h0 j (by omega) hj]⟩
theorem rf_none {l:List File} {n:ByteArray} (h0:∀ i (hi:i<l.length),nameIs n l[i]=false):l.find? (nameIs n)=none:=by
 rw [List.find?_eq_none]
 intro x hx
 obtain ⟨i,hi,rfl⟩:=List.mem_iff_getElem.1 hx
 simp [h0 i hi]
set_option maxHeartbeats 8000000 in
set_option maxRecDepth 100000 in
theorem rfind_calls (t:File) (A:Option Addr) (c:Nat) (Ap:Option Addr) (cp:Nat) (p:List ByteArray) (w:World) (hr:FileK.C w A t.files.length t.files) (hc:t.files.length≤c) (hbk:t.bulk≤1099511627776) (hp:Kd.C Kd.string w Ap p.length p) (hcp:p.length≤cp) (hpl:p.length≤1099511627776) :
  Calls Tryz.prog 74 #[fileV t A c,.slice Ap p.length cp] w fun e w'=>∃ A' c',e=.returned (.tuple #[.agg #[.string (findR t p).1.name,.int .u8 (findR t p).1.kind,.string (findR t p).1.data,.slice A' (findR t p).1.files.length c'],.int .i64 (findR t p).2])∧(findR t p).1.files.length≤c'∧FileK.C w A' (findR t p).1.files.length (findR t p).1.files∧Below w.heap.size w w':=by
 have HP:=Lib.hid hp
 have h2:=two_boxes w (fc t A c) zC 25 25
 have hb2:=(below_alloc (Below.refl w.heap.size w) (.cells (fc t A c) 25)).alloc (by simp) (.cells zC 25)
 obtain ⟨R,hR⟩:∃ R,findR t p=R:=⟨_,rfl⟩
 rw [hR]
 have HRR:=Lib.hid hR
 have HC0:=Lib.hid hr
 clear hp hR hr
 go_enter Tryz.func74,Tryz.ntmps74
 unfold fileV
 go_wp2_with fail
 generalize (w.alloc (.cells (fc t A c) 25)).alloc (.cells zC 25)=W2 at *
 go_loopw [13] (fun vi wr=>∃ (k:Nat) (y:File) (A1:Option Addr) (c1:Nat),k≤p.length∧vi=.int .i64 k∧Below w.heap.size w wr∧Hid (wr.heap[w.heap.size]? = some (.cells (fc y A1 c1) 25 (0,0)))∧Hid (wr.heap[w.heap.size+1]? = some (.cells zC 25 (0,0)))∧y.files.length≤c1∧Hid (FileK.C w A1 y.files.length y.files)∧y.bulk≤t.bulk∧Hid (findR y (p.drop k)=R)) (fun vi _=>p.length - (RowKit.intOf vi).toNat)
 case atStart=>exact ⟨0,t,A,c,by omega,rfl,hb2,Lib.hid h2.1,Lib.hid h2.2,hc,HC0,Nat.le_refl _,HRR⟩
 case round =>
  obtain ⟨k,y,A1,c1,hk,rfl,hb,HX,HZ,hc1,HC,hyb,HG⟩:=hrel
  have hsz:=blk_lt HZ.out
  have y1:=cell_of (j:=1) HX.out rfl
  have y3:=cell_of (j:=3) HX.out rfl
  by_cases hlt:k<p.length
  ·obtain ⟨pad,rfl,hx⟩:=Kd.at_string HP.out (k:Int) (by omega) (by omega)
   rw [Int.toNat_natCast] at hx
   have he:rdOf ByteArray.empty p (k:Int)=p[k]:=by simp [rdOf,hlt]
   rw [he] at hx
   have hx':=(hb.cell (World.block_lt_of_cell? w _ hx)).trans hx
   have hdr:p.drop k=p[k] :: p.drop (k+1):=List.drop_eq_getElem_cons hlt
   have hgo:=HG.out
   rw [hdr,findR] at hgo
   clear he hx hdr HG
   generalize p[k]=n at *
   have g1:(k:Int)<(p.length:Int):=by omega
   by_cases hk1:y.kind=1
   ·rw [if_pos hk1] at hgo
    have hye:=bulk_eq y
    have hyl:=bulkL_len y.files
    have hyn:y.files.length≤1099511627776:=by omega
    have HGO:=Lib.hid hgo
    clear hgo hye hyl
    go_wp2_with fail
    rename World=>wo
    go_loopw [8,24] (fun vt vj wi=>∃ m:Nat,m≤y.files.length∧vt=.bool false∧vj=.int .i64 m∧Below wo.heap.size wo wi∧Hid (∀ i (hi:i<y.files.length),i<m→nameIs n y.files[i]=false)) (fun _ vj _=>y.files.length - (RowKit.intOf vj).toNat)
    case atStart=>exact ⟨0,by omega,rfl,rfl,Below.refl _ _,Lib.hid fun _ _ h=>by omega⟩
    case round =>
     obtain ⟨m,hm,rfl,rfl,hbi,HNO⟩:=hrel
     have hbw:=bstep hb hb.size hbi
     by_cases hml:m<y.files.length
     ·obtain ⟨fad,A',c',rfl,p1,p2,p3,p4,hc',hC'⟩:=file_at HC.out m hml
      have mv:∀ {p:Addr} {v:Value},w.cell? p=some v→wr.cell? p=some v:=fun h=>(hbw.cell (World.block_lt_of_cell? w _ h)).trans h
      have p1':=mv p1
      have p2':=mv p2
      have p3':=mv p3
      have p4':=mv p4
      have hmb:=bulk_child (List.getElem_mem hml)
      have HFA:Hid (nameIs n y.files[m]=true→y.files.find? (nameIs n)=some y.files[m]):=Lib.hid (rf_at hml HNO.out)
      have HNX:Hid (nameIs n y.files[m]=false→∀ i (hi:i<y.files.length),i<m+1→nameIs n y.files[i]=false):=Lib.hid (fun h i hi hj=>by
       by_cases hjm:i<m
       ·exact HNO.out i hi hjm
       ·obtain rfl:i=m:=by omega
        exact h)
      have HX':=Lib.hid hC'
      clear p1 p2 p3 p4 mv hC' HNO
      generalize y.files[m]=x at *
      have g2:(m:Int)<(y.files.length:Int):=by omega
      have hXi:=(hbi.block w.heap.size (by omega)).trans HX.out
      have hZi:=(hbi.block (w.heap.size+1) hsz).trans HZ.out
      have hba:=below_alloc (Below.refl wr.heap.size wr) (.cells (fc x A' c') 25)
      have hXa:=(hba.block w.heap.size (by have:=blk_lt hXi;omega)).trans hXi
      have hZa:=(hba.block (w.heap.size+1) (by have:=blk_lt hZi;omega)).trans hZi
      have hna:=blk_new wr (.cells (fc x A' c') 25)
      have hbwa:=bstep hbw hbw.size hba
      have f0:=unfr hXa 0
      have f1:=unfr hXa 1
      have f2:=unfr hXa 2
      have f3:=unfr hXa 3
      obtain ⟨x0,x1,x2,x3⟩:=c4A hXa
      cases hnm:nameIs n x
      ·have HNN:=Lib.hid (HNX.out hnm)
       have q1:(x.name.toList == n.toList)=false:=hnm
       clear HNX HFA x0 x1 x2 x3 f0 f1 f2 f3 hnm
       go_wp2_with fail
       go_roundw
       case rel=>exact ⟨m+1,by omega,rfl,by go_num,bstep hbi hbi.size hba,HNN⟩
       case measure=>simp [RowKit.intOf];omega
      ·have hfa:=HFA.out hnm
       have hgo:=HGO.out
       rw [hfa] at hgo
       simp only at hgo
       have HGN:=Lib.hid hgo
       have q1:(x.name.toList == n.toList)=true:=hnm
       have HH:=Lib.hid (store4_box hXa (.string x.name) (.int .u8 x.kind) (.string x.data) (.slice A' x.files.length c'))
       have HZ2:=Lib.hid ((store4_other _ (show w.heap.size+1≠w.heap.size by omega) (.string x.name) (.int .u8 x.kind) (.string x.data) (.slice A' x.files.length c')).trans hZa)
       have HBL:=Lib.hid (store4_below hbwa (Nat.le_refl w.heap.size) (.string x.name) (.int .u8 x.kind) (.string x.data) (.slice A' x.files.length c'))
       clear HNX HFA HGO hnm hfa hgo
       go_wp2_with fail
       go_roundw
       case rel=>exact ⟨k+1,x,A',c',by omega,by go_num,HBL.out,HH,HZ2,hc',HX',by omega,HGN⟩
       case measure=>simp [RowKit.intOf];omega
     ·obtain rfl:m=y.files.length:=by omega
      have hfn:=rf_none fun i hi=>HNO.out i hi hi
      have hgo:=HGO.out
      rw [hfn] at hgo
      simp only at hgo
      subst hgo
      have hZi:=(hbi.block (w.heap.size+1) hsz).trans HZ.out
      have HH:=Lib.hid (store4_box hZi (.string ⟨#[]⟩) (.int .u8 0) (.string ⟨#[]⟩) (.slice none 0 0))
      have HBL:=Lib.hid (store4_below hbw (Nat.le_succ w.heap.size) (.string ⟨#[]⟩) (.int .u8 0) (.string ⟨#[]⟩) (.slice none 0 0))
      have f0:=unfr hZi 0
      have f1:=unfr hZi 1
      have f2:=unfr hZi 2
      have f3:=unfr hZi 3
      obtain ⟨z0,z1,z2,z3⟩:=c4A hZi
      clear HGO HNO hfn
      go_wp2_with fail
      refine bodyPost_ret (results_ct rfl _ _ (w.heap.size+1) 25 zC (0,0) _ rfl HH.out Tryz.underlying25 rfl (by kernel_rfl)) rfl ?_
      exact ⟨none,0,rfl,Nat.le_refl 0,Kd.C_nil FileK _,HBL.out⟩
   ·rw [if_neg hk1] at hgo
    subst hgo
    have k1:(y.kind != 1)=true:=by rw [bne_iff_ne];exact hk1
    have HH:=Lib.hid (store4_box HZ.out (.string ⟨#[]⟩) (.int .u8 0) (.string ⟨#[]⟩) (.slice none 0 0))
    have HBL:=Lib.hid (store4_below hb (Nat.le_succ w.heap.size) (.string ⟨#[]⟩) (.int .u8 0) (.string ⟨#[]⟩) (.slice none 0 0))
    have f0:=unfr HZ.out 0
    have f1:=unfr HZ.out 1
    have f2:=unfr HZ.out 2
    have f3:=unfr HZ.out 3
    obtain ⟨z0,z1,z2,z3⟩:=c4A HZ.out
    go_wp2_with fail
    refine bodyPost_ret (results_ct rfl _ _ (w.heap.size+1) 25 zC (0,0) _ rfl HH.out Tryz.underlying25 rfl (by kernel_rfl)) rfl ?_
    exact ⟨none,0,rfl,Nat.le_refl 0,Kd.C_nil FileK _,HBL.out⟩
  ·obtain rfl:k=p.length:=by omega
   have hgo:=HG.out
   rw [List.drop_length,findR] at hgo
   subst hgo
   have HH:=Lib.hid (store4_box HZ.out (.string y.name) (.int .u8 y.kind) (.string y.data) (.slice A1 y.files.length c1))
   have HBL:=Lib.hid (store4_below hb (Nat.le_succ w.heap.size) (.string y.name) (.int .u8 y.kind) (.string y.data) (.slice A1 y.files.length c1))
   have y0:=cell_of (j:=0) HX.out rfl
   have y2:=cell_of (j:=2) HX.out rfl
   have f0:=unfr HZ.out 0
   have f1:=unfr HZ.out 1
   have f2:=unfr HZ.out 2
   have f3:=unfr HZ.out 3
   obtain ⟨z0,z1,z2,z3⟩:=c4A HZ.out
   go_wp2_with fail
   refine bodyPost_ret (results_ct rfl _ _ (w.heap.size+1) 25 (fc y A1 c1) (0,0) _ rfl HH.out Tryz.underlying25 rfl (by kernel_rfl)) rfl ?_
   exact ⟨A1,c1,rfl,hc1,HC.out,HBL.out⟩
end Go.Proofs.YthlcjjhfkldmhaaGreatDoor.G
end
end
section
namespace Go.Proofs.YthlcjjhfkldmhaaGreatDoor.G
open Go.RowKit Go.Lib Go.Proofs.YthlcjjhfkldmhaaGreatDoorW.PrintWords Go.Proofs.YthlcjjhfkldmhaaGreatDoorW.PrintLast
set_option linter.unusedVariables false
set_option linter.unusedSimpArgs false
def insB (gone:Bool) (n:ByteArray) (last put:Bool) (x:File):Bool:=last && !put && !gone && !(Op.bytesLess x.name.toList n.toList)
def chO (last:Bool) (n:ByteArray) (rec:File→File) (x:File):List File:=if nameIs n x=true then (if last=true then [] else [rec x]) else [x]
def withL (gone:Bool) (f:File) (n:ByteArray) (last:Bool) (rec:File→File):List File→Bool→List File
 | [],put=>if (last && !put && !gone)=true then [f] else []
 | x :: l,put=>(if insB gone n last put x=true then [f] else [])++(chO last n rec x++withL gone f n last rec l (put || insB gone n last put x))
def withR (gone:Bool) (f:File):List ByteArray→File→File
 | [],t=>t
 | n :: p,t=>⟨t.name,t.kind,t.data,withL gone f n p.isEmpty (withR gone f p) t.files false⟩
theorem withR_keep (gone:Bool) (f:File):∀ (p:List ByteArray) (t:File),(withR gone f p t).name=t.name∧(withR gone f p t).kind=t.kind∧(withR gone f p t).data=t.data
 | [],t=>⟨rfl,rfl,rfl⟩
 | n :: p,t=>⟨rfl,rfl,rfl⟩
def bw (n m:Nat):Array Bool:=((List.range n).map (fun j=>m.testBit j)).toArray
set_option maxHeartbeats 16000000 in
set_option maxRecDepth 100000 in
theorem rwith_calls (gone:Bool) (f:File) (Af:Option Addr) (cf:Nat):∀ (p:List ByteArray) (t:File) (A:Option Addr) (c:Nat) (Ap:Option Addr) (cp:Nat) (okf:Nat→Prop) (w:World),p≠[]→FileK.C w A t.files.length t.files→t.files.length≤c→t.bulk≤549755813888→Kd.C Kd.string w Ap p.length p→p.length≤cp→p.length≤1099511627776 →
  FileK.R 25 w 0 okf (.slice Af f.files.length cf) f.files→(∀ k,okf k→k<w.heap.size) →
  Calls Tryz.prog 75 #[fileV t A c,.slice Ap p.length cp,fileV f Af cf,.bool gone] w fun e w'=>∃ v,e=.returned (.agg #[.string t.name,.int .u8 t.kind,.string t.data,v])∧FileK.R 25 w' 0 (fun k=>okf k∨w.heap.size≤k) v (withR gone f p t).files∧Below w.heap.size w w':=by
 intro p
 induction p with
 | nil=>intro t A c Ap cp okf w h;exact absurd rfl h
 | cons n p2 ih =>
 intro t A c Ap cp okf w _ hr hc hbk hp hcp hpl hf hokf
 have HI:=Lib.hid ih
 have HR:=Lib.hid hr
 have HP:=Lib.hid hp
 have HF:=Lib.hid hf
 have HOKF:=Lib.hid hokf
 have hbe:=bulk_eq t
 have hbl:=bulkL_len t.files
 have hal:t.files.length≤137438953472:=by omega
 have HCB:=Lib.hid (fun x (h:x∈t.files)=>bulk_child (f:=t) h)
 have HFR:Hid (∀ W,Below w.heap.size w W→FileK.R 25 W 0 okf (.slice Af f.files.length cf) f.files):=Lib.hid fun W h=>Kd.R_below HF.out h
 obtain ⟨pad,rfl,hp0⟩:=Kd.at_string hp (0:Int) (Int.le_refl 0) (by simp only [List.length_cons];omega)
 have hp0:w.cell? pad=some (.string n):=by simpa [Addr.add,rdOf] using hp0
 have HPN:Hid (∀ W,Below w.heap.size w W→W.cell? pad=some (.string n)):=Lib.hid fun W h=>(h.cell (World.block_lt_of_cell? w _ hp0)).trans hp0
 have HPT:Hid (p2≠[]→∀ W,Below w.heap.size w W→Kd.C Kd.string W (some (pad.add 1)) p2.length p2):=Lib.hid fun h0 W h=>by
  have h2:=List.length_pos_iff.2 h0
  have h1:=Kd.C_drop (c:=cp) (Kd.C_below HP.out h) (m:=1) (by simp only [List.length_cons];omega) hcp
  simp only [List.length_cons] at hcp
  rw [if_neg (by omega)] at h1
  exact h1
 obtain ⟨Z,hZ⟩:∃ Z,withL gone f n p2.isEmpty (withR gone f p2) t.files false=Z:=⟨_,rfl⟩
 have HWZ:Hid ((withR gone f (n :: p2) t).files=Z):=Lib.hid (by rw [← hZ];rfl)
 rw [HWZ.out]
 have HZZ:=Lib.hid hZ
 obtain ⟨lp,hlp⟩:∃ lp,(n :: p2).length=lp:=⟨_,rfl⟩
 have hlp2:lp=p2.length+1:=by rw [← hlp];rfl
 rw [hlp] at hcp hpl ⊢
 have HLP:=Lib.hid hlp2
 clear hr hp hf hokf ih hbe hbl hZ hp0 HP hlp
 have g0:(0:Int)<(lp:Int):=by omega
 clear hlp2
 have e1:((w.alloc (.cells (fc t A c) 25)).alloc (.cells (fc f Af cf) 25)).heap[w.heap.size+1]? = some (.cells (fc f Af cf) 25 (0,0)):=(two_boxes w _ _ _ _).2
 have e2:=three_boxes w (fc t A c) (fc f Af cf) zC 25 25 25
 obtain ⟨W3,hW3⟩:∃ W3,((w.alloc (.cells (fc t A c) 25)).alloc (.cells (fc f Af cf) 25)).alloc (.cells zC 25)=W3:=⟨_,rfl⟩
 have hz3:W3.heap.size=w.heap.size+3:=by rw [← hW3];simp
 have hb3:Below w.heap.size w W3:=by
  rw [← hW3]
  exact ((below_alloc (Below.refl w.heap.size w) _).alloc (by simp) _).alloc (by simp;omega) _
 have k1:W3.heap[w.heap.size+1]? = some (.cells (fc f Af cf) 25 (0,0)):=by
  rw [← hW3]
  exact (Below.heap_alloc _ _ _ (by simp)).trans e1
 have k2:W3.heap[w.heap.size+2]? = some (.cells zC 25 (0,0)):=by rw [← hW3];exact e2
 have hb4:=below_alloc (Below.refl W3.heap.size W3) (.cells #[.string t.name,.int .u8 t.kind,.string t.data,.slice none 0 0] 25)
 have k3:=blk_new W3 (.cells #[.string t.name,.int .u8 t.kind,.string t.data,.slice none 0 0] 25)
 rw [hz3] at k3
 have HW4:Hid (Below w.heap.size w (W3.alloc (.cells #[.string t.name,.int .u8 t.kind,.string t.data,.slice none 0 0] 25))):=Lib.hid (bstep hb3 hb3.size hb4)
 have K1:=Lib.hid ((hb4.block (w.heap.size+1) (by omega)).trans k1)
 have K2:=Lib.hid ((hb4.block (w.heap.size+2) (by omega)).trans k2)
 have K3:=Lib.hid k3
 have k0:W3.heap[w.heap.size]? = some (.cells (fc t A c) 25 (0,0)):=by
  rw [← hW3]
  exact (Below.heap_alloc _ _ _ (by simp;omega)).trans (two_boxes w _ _ _ _).1
 have k4:=(hb4.block w.heap.size (by omega)).trans k0
 obtain ⟨y0,y1,y2⟩:=c3A k0
 have y3:=cell_of (j:=3) k4 rfl
 clear e1 e2 k1 k2 k3 k0 k4 hb4
 go_enter Tryz.func75,Tryz.ntmps75
 unfold fileV
 go_wp2_with fail
 clear y0 y1 y2 y3
 generalize W3.alloc (.cells #[.string t.name,.int .u8 t.kind,.string t.data,.slice none 0 0] 25)=W4 at *
 go_loopw [10,23] (fun vp vi wr=>∃ (k:Nat) (put:Bool) (v:Value) (out:List File),k≤t.files.length∧vp=.bool put∧vi=.int .i64 k∧w.heap.size=w.heap.size∧Below w.heap.size w wr∧Hid (wr.heap[w.heap.size+1]? = some (.cells (fc f Af cf) 25 (0,0)))∧Hid (wr.heap[w.heap.size+2]? = some (.cells zC 25 (0,0)))∧Hid (wr.heap[w.heap.size+3]? = some (.cells #[.string t.name,.int .u8 t.kind,.string t.data,v] 25 (0,0)))∧Hid (FileK.R 25 wr 0 (fun j=>okf j∨w.heap.size+4≤j) v out)∧Hid (∀ j,v.ownBlock=some j→w.heap.size+4≤j)∧out.length≤2 * k∧Hid (Z=out++withL gone f n p2.isEmpty (withR gone f p2) (t.files.drop k) put)) (fun _ vi _=>t.files.length - (RowKit.intOf vi).toNat)
 case atStart=>exact ⟨0,false,.slice none 0 0,[],by omega,rfl,rfl,rfl,HW4.out,K1,K2,K3,Lib.hid (Kd.R_nil _ _ _ _ _),Lib.hid (fun j h=>by simp [Value.ownBlock] at h),by simp,Lib.hid HZZ.out.symm⟩
 case round =>
  clear HW4 K1 K2 K3 HZZ hW3 hz3 hb3
  obtain ⟨k,put,v,out,hk,rfl,rfl,_,hb,HN1,HN2,HN3,HV,HVO,hout,HZ0⟩:=hrel
  by_cases hlt:k<t.files.length
  ·obtain ⟨aad,A',c',rfl,p1,p2',p3,p4,hc',hC'⟩:=file_at HR.out k hlt
   have mv:∀ {p:Addr} {v:Value},w.cell? p=some v→wr.cell? p=some v:=fun h=>(hb.cell (World.block_lt_of_cell? w _ h)).trans h
   have p1':=mv p1
   have p2'':=mv p2'
   have p3':=mv p3
   have p4':=mv p4
   have hxb:=HCB.out _ (List.getElem_mem hlt)
   have hdr:=List.drop_eq_getElem_cons hlt
   have hz0:=HZ0.out
   rw [hdr,withL] at hz0
   have HZ1:=Lib.hid hz0
   have HXC:=Lib.hid hC'
   clear p1 p2' p3 p4 mv hC' HZ0 hz0 hdr
   generalize t.files[k]=x at *
   have hxb2:x.bulk≤549755813888:=by omega
   have g1:(k:Int)<(t.files.length:Int):=by omega
   have hbx1:=below_alloc (Below.refl wr.heap.size wr) (.cells (fc x A' c') 25)
   have hb1:=bstep hb hb.size hbx1
   have HXB1:=Lib.hid (blk_new wr (.cells (fc x A' c') 25))
   have HN11:=Lib.hid ((hbx1.block _ (blk_lt HN1.out)).trans HN1.out)
   have HN21:=Lib.hid ((hbx1.block _ (blk_lt HN2.out)).trans HN2.out)
   have HN31:=Lib.hid ((hbx1.block _ (blk_lt HN3.out)).trans HN3.out)
   have HV1:=Lib.hid (Kd.R_below HV.out hbx1)
   have HBV:Hid (∀ j,v.ownBlock=some j→j≠wr.heap.size):=Lib.hid fun j hj e=>by
    have:=Kd.R_lt HV.out j hj
    omega
   have hbx4:w.heap.size+4≤wr.heap.size:=by have:=blk_lt HN3.out;omega
   have HCPY:Hid (∀ W,Below w.heap.size w W→∀ V,Below W.heap.size W V→Calls Tryz.prog 5 #[.agg (fc x A' c')] V fun e w'=>∃ v,e=.returned (.agg #[.string x.name,.int .u8 x.kind,.string x.data,v])∧FileK.R 25 w' 0 (fun j=>okf j∨W.heap.size≤j) v x.files∧Below W.heap.size W w'):=Lib.hid fun W h V hV =>
    (show Calls Tryz.prog 5 #[fileV x A' c'] V _ from rcopy_file _ x A' c' V (Nat.le_refl _) (by omega) (Kd.C_below HXC.out (bstep h h.size hV)) hc').mono (by
     rintro e w' ⟨v,rfl,hR,hb⟩
     exact ⟨v,rfl,Kd.R_lower (Kd.R_mono (Kd.R_bound hR) fun j hj=>.inr (Nat.le_trans hV.size hj.2.1)) (Nat.zero_le _),bstep hV hV.size hb⟩)
   have HWTH:Hid (p2≠[]→∀ W,Below w.heap.size w W→∀ V,Below W.heap.size W V→Calls Tryz.prog 75 #[.agg (fc x A' c'),.slice (some (pad.add 1)) p2.length (cp - 1),.agg (fc f Af cf),.bool gone] V fun e w'=>∃ v,e=.returned (.agg #[.string x.name,.int .u8 x.kind,.string x.data,v])∧FileK.R 25 w' 0 (fun j=>okf j∨W.heap.size≤j) v (withR gone f p2 x).files∧Below W.heap.size W w'):=Lib.hid fun h0 W h V hV =>
    (show Calls Tryz.prog 75 #[fileV x A' c',.slice (some (pad.add 1)) p2.length (cp - 1),fileV f Af cf,.bool gone] V _ from HI.out x A' c' _ _ okf V h0 (Kd.C_below HXC.out (bstep h h.size hV)) hc' hxb2 (HPT.out h0 V (bstep h h.size hV)) (by have:=HLP.out;omega) (by have:=HLP.out;omega) (HFR.out V (bstep h h.size hV)) (fun j hj=>by have:=HOKF.out j hj;have:=(bstep h h.size hV).size;omega)).mono (by
     rintro e w' ⟨v,rfl,hR,hb⟩
     exact ⟨v,rfl,Kd.R_mono hR fun j hj=>hj.imp id fun h=>Nat.le_trans hV.size h,bstep hV hV.size hb⟩)
   have HCH0:Hid (nameIs n x=false→chO p2.isEmpty n (withR gone f p2) x=[x]):=Lib.hid fun h=>by unfold chO;rw [if_neg (by rw [h];simp)]
   go_wp2_with fail
   clear p1' p2'' p3' p4' HN1 HN2 HN3 HV HXC
   generalize hbxe:wr.heap.size=bx at *
   generalize wr.alloc (.cells (fc x A' c') 25)=W1 at *
   clear hbx1 hbxe hb
   have x0:W1.cell? ⟨bx,0,none⟩=some (.string x.name):=cell_of HXB1.out rfl
   have hpn:=HPN.out W1 hb1
   by_cases hp2:p2=[]
   ·have HCH1:Hid (nameIs n x=true→chO p2.isEmpty n (withR gone f p2) x=[]):=Lib.hid fun h=>by unfold chO;rw [if_pos h,hp2];rfl
    have l1:lp=1:=by rw [HLP.out,hp2];rfl
    have HLS:Hid (p2.isEmpty=true):=Lib.hid (by rw [hp2];rfl)
    subst l1
    clear HWTH HI
    cases put
    ·cases gone
     ·cases hge:Op.bytesLess x.name.toList n.toList
      ·have HZ:Hid (Z=(out++[f])++(chO p2.isEmpty n (withR false f p2) x++withL false f n p2.isEmpty (withR false f p2) (t.files.drop (k+1)) true)):=Lib.hid (by
        have h:insB false n p2.isEmpty false x=true:=by unfold insB;rw [HLS.out,hge];rfl
        have:=HZ1.out
        rw [h] at this
        simpa using this)
       clear HZ1 HPT
       go_wp2_with fail
       go_quiet (fail)
       have hb9:=bdrewN (Below.refl W1.heap.size W1) nq
       have hbi:=bstep hb1 hb1.size hb9
       have HN1i:=Lib.hid ((hb9.block _ (blk_lt HN11.out)).trans HN11.out)
       have HN2i:=Lib.hid ((hb9.block _ (blk_lt HN21.out)).trans HN21.out)
       have HN3i:=Lib.hid ((hb9.block _ (blk_lt HN31.out)).trans HN31.out)
       have HXBi:=Lib.hid ((hb9.block _ (blk_lt HXB1.out)).trans HXB1.out)
       have HVi:=Lib.hid (Kd.R_below HV1.out hb9)
       clear HN11 HN21 HN31 HXB1 HV1 hb9 x0 hpn
       generalize W1.drewN nq=Wi at *
       have hz1:=blk_lt HN1i.out
       have hz2:=blk_lt HN2i.out
       have hz3:=blk_lt HN3i.out
       have hzx:=blk_lt HXBi.out
       have o3:Wi.cell? ⟨w.heap.size+2+1,3,none⟩=some v:=cell_of HN3i.out rfl
       have f0:Wi.cell? ⟨w.heap.size+1,0,none⟩=some (.string f.name):=cell_of HN1i.out rfl
       have f1:Wi.cell? ⟨w.heap.size+1,1,none⟩=some (.int .u8 f.kind):=cell_of HN1i.out rfl
       have f2:Wi.cell? ⟨w.heap.size+1,2,none⟩=some (.string f.data):=cell_of HN1i.out rfl
       have f3:Wi.cell? ⟨w.heap.size+1,3,none⟩=some (.slice Af f.files.length cf):=cell_of HN1i.out rfl
       go_wp2_with (at_builtin;refine Kd.R_append FileK (w0:=Wi) 0 rfl (.tmp 47) (.tmp 49) 23 25 (.agg #[(.string ⟨#[]⟩),(.int .u8 0),(.string ⟨#[]⟩),(.slice none 0 0)]) 64 rfl Tryz.underlying23 info_file rfl (by decide) (by omega) v out f [.string f.name,.int .u8 f.kind,.string f.data,.slice Af f.files.length cf] (fun j=>okf j∨w.heap.size+4≤j) okf rfl rfl ?aP ?aK ?aF ?aO ?aB ?aS ?aL ?_;(case aP=>exact file_mkM _ _ _ f (HFR.out Wi hbi));(case aK=>exact fun j hj=>⟨.inl hj,fun e=>by have h1:=HVO.out j e.symm;have:=HOKF.out j hj;omega⟩);(case aF=>exact fun j hj=>.inr (by omega));(case aO=>exact HVi.out);(case aB=>exact Below.refl _ _);(case aS=>exact Nat.zero_le _);(case aL=>omega);intro v2 w2 ho2 hb2 hg2 hat2;have HVO2:Hid (∀ j,v2.ownBlock=some j→w.heap.size+4≤j):=Lib.hid (fun j hj=>hat2.elim (fun h=>HVO.out j (h ▸ hj)) (fun ⟨b,h,hle⟩=>by rw [h] at hj;injection hj with hj;omega));have hne:∀ j,j<w.heap.size+4∨j=bx→some j≠v.ownBlock:=(fun j hj e=>hj.elim (fun h=>by have h1:=HVO.out j e.symm;omega) (fun h=>HBV.out j e.symm h));have HG3:=Lib.hid ((hg2.block (w.heap.size+3) (by omega) (hne _ (.inl (by omega)))).trans HN3i.out);have HGX:=Lib.hid ((hg2.block bx (by omega) (hne _ (.inr rfl))).trans HXBi.out);have HG1:=Lib.hid ((hg2.block (w.heap.size+1) (by omega) (hne _ (.inl (by omega)))).trans HN1i.out);have HG2:=Lib.hid ((hg2.block (w.heap.size+2) (by omega) (hne _ (.inl (by omega)))).trans HN2i.out);have hbw2:Below w.heap.size w w2:=hbi.grown hg2 hbi.size (fun r e=>by have:=HVO.out r e;omega);have HBV2:Hid (∀ j,v2.ownBlock=some j→j≠bx):=Lib.hid (fun j hj e=>hat2.elim (fun h=>HBV.out j (h ▸ hj) e) (fun ⟨b,h,hle⟩=>by rw [h] at hj;injection hj with hj;omega));have HO2:=Lib.hid ho2;have hcs:w2.cell? ⟨w.heap.size+2+1,3,none⟩=some v:=cell_of HG3.out rfl;have hfs:w2.frozen? ⟨w.heap.size+2+1,3,none⟩=false:=unfr HG3.out 3;obtain ⟨A2,c2,rfl,hc2,hC2⟩:=Kd.R_reads ho2;clear ho2 hC2 hne hat2 o3 f0 f1 f2 f3;(generalize hol2:(out++[f]).length=ol2 at *);clear hol2)
       have HN1t:=Lib.hid ((Below.heap_setCell w2 ⟨w.heap.size+3,3,none⟩ (.slice A2 ol2 c2) (w.heap.size+1) (by simp only;omega)).trans HG1.out)
       have HN2t:=Lib.hid ((Below.heap_setCell w2 ⟨w.heap.size+3,3,none⟩ (.slice A2 ol2 c2) (w.heap.size+2) (by simp only;omega)).trans HG2.out)
       have HXBt:=Lib.hid ((Below.heap_setCell w2 ⟨w.heap.size+3,3,none⟩ (.slice A2 ol2 c2) bx (by simp only;omega)).trans HGX.out)
       have HN3t:=Lib.hid (blk_put (cs:=#[.string t.name,.int .u8 t.kind,.string t.data,v]) HG3.out 3 (.slice A2 ol2 c2) rfl)
       have HVt:=Lib.hid (Kd.R_far (p:=⟨w.heap.size+3,3,none⟩) HO2.out (fun j hj=>by
        rcases hj with h | h
        ·have:=HOKF.out j h
         simp only
         omega
        ·simp only
         omega) (.slice A2 ol2 c2))
       have hbt:=hbw2.setCell (p:=⟨w.heap.size+3,3,none⟩) (by simp only;omega) (.slice A2 ol2 c2)
       clear hcs hfs HG1 HG2 HG3 HGX HO2 HN1i HN2i HN3i HXBi HVi HBV HVO hbw2 hg2 hb2 hbi hz1 hz2 hz3 hzx
       have HBV:=HBV2
       have HVO:=HVO2
       have hol:(out++[f]).length≤2 * k+1:=by simp only [List.length_append,List.length_cons,List.length_nil];omega
       clear HBV2 HVO2 hout
       change Hid ((w2.setCell ⟨w.heap.size+3,3,none⟩ (.slice A2 ol2 c2)).heap[w.heap.size+3]? = some (.cells #[.string t.name,.int .u8 t.kind,.string t.data,(.slice A2 ol2 c2)] 25 (0,0))) at HN3t
       generalize hv9:Value.slice A2 ol2 c2=v9 at *
       clear hv9
       generalize w2.setCell ⟨w.heap.size+3,3,none⟩ v9=Wt at *
       generalize out++[f]=out9 at *
       have x0:Wt.cell? ⟨bx,0,none⟩=some (.string x.name):=cell_of HXBt.out rfl
       have hpn:=HPN.out Wt hbt
       cases hnm:nameIs n x
       ·have q1:(x.name.toList == n.toList)=false:=hnm
        have q2:(x.name.toList != n.toList)=true:=by rw [bne,q1];rfl
        go_wp2_with fail
        go_quiet (fail)
        have hb9:=bdrewN (Below.refl Wt.heap.size Wt) nq
        have hbq:=bstep hbt hbt.size hb9
        have HN1q:=Lib.hid ((hb9.block _ (blk_lt HN1t.out)).trans HN1t.out)
        have HN2q:=Lib.hid ((hb9.block _ (blk_lt HN2t.out)).trans HN2t.out)
        have HN3q:=Lib.hid ((hb9.block _ (blk_lt HN3t.out)).trans HN3t.out)
        have HXBq:=Lib.hid ((hb9.block _ (blk_lt HXBt.out)).trans HXBt.out)
        have HVq:=Lib.hid (Kd.R_below HVt.out hb9)
        clear HN1t HN2t HN3t HXBt HVt x0 hpn hbt hb9
        generalize Wt.drewN nq=Wq at *
        go_wp2_with fail
        have HBX:Hid (∀ W,Below Wq.heap.size Wq W→W.heap[w.heap.size+3]? = some (.cells #[.string t.name,.int .u8 t.kind,.string t.data,v9] 25 (0,0))∧W.heap[bx]? = some (.cells (fc x A' c') 25 (0,0))∧W.heap[w.heap.size+1]? = some (.cells (fc f Af cf) 25 (0,0))):=Lib.hid fun W h =>
         ⟨(h.block _ (blk_lt HN3q.out)).trans HN3q.out,(h.block _ (blk_lt HXBq.out)).trans HXBq.out,(h.block _ (blk_lt HN1q.out)).trans HN1q.out⟩
        have hz1:=blk_lt HN1q.out
        have hz2:=blk_lt HN2q.out
        have hz3:=blk_lt HN3q.out
        have hzx:=blk_lt HXBq.out
        have HCP:=Lib.hid (HCPY.out Wq hbq)
        refine start_ (n:=8) (S:=fun w'=>w'.heap[w.heap.size+3]? = some (.cells #[.string t.name,.int .u8 t.kind,.string t.data,v9] 25 (0,0))∧w'.heap[bx]? = some (.cells (fc x A' c') 25 (0,0))∧w'.heap[w.heap.size+1]? = some (.cells (fc f Af cf) 25 (0,0))) (ds:=[7]) (bw 8 0) (by kernel_rfl) rfl rfl (HBX.out _ (bdrew (Below.refl _ _))) (fun hHeld => ?_)
        refine pA 0 59 (bw 8 1) ?_
        refine tA 1 60 (bw 8 3) hHeld ?_ (hy:=by
         rintro w' ⟨s0,s1,s2⟩
         have q3:w'.cell? ⟨w.heap.size+2+1,3,none⟩=some v9:=cell_of (j:=3) s0 rfl
         go_simp
         with_reducible rfl)
        refine tA 2 61 (bw 8 7) hHeld ?_ (hy:=by
         rintro w' ⟨s0,s1,s2⟩
         have q0:=cell_of (j:=0) s1 rfl
         have q1:=cell_of (j:=1) s1 rfl
         have q2:=cell_of (j:=2) s1 rfl
         have q3:=cell_of (j:=3) s1 rfl
         go_simp
         with_reducible rfl)
        refine eA 3 62 (bw 8 15) (fun K hK => ?_)
        refine gA Tryz.func5 #[.agg (fc x A' c')] ?_
        refine (HCP.out _ (bdrew (Below.refl _ _))).mono ?_
        rintro e w1 ⟨v1,rfl,ho1,hb1'⟩
        refine ⟨_,rfl,?_⟩
        have hs1:=hb1'.size
        have HB1:=Lib.hid (HBX.out _ hb1')
        have HV1:=Lib.hid (Kd.R_below HVq.out hb1')
        have HP1:=Lib.hid ho1
        obtain ⟨A1,c1,rfl,hc1,hC1⟩:=Kd.R_reads ho1
        clear ho1 hC1 hHeld
        refine hK.out _ _ HB1.out (fun hHeld => ?_)
        refine nA 62 ?_
        refine eA 4 63 (bw 8 31) (fun K hK => ?_)
        refine vA ?_
        refine hK.out _ _ (HBX.out _ (below_alloc hb1' (.cells (fc x A1 c1) 25))) (fun hHeld => ?_)
        refine nA 63 ?_
        refine eA 5 64 (bw 8 63) (fun K hK => ?_)
        refine Kd.R_append_step FileK (w0:=w1) 0 (by rfl) (.tmp 60) (.tmp 63) 23 25 (.agg #[(.string ⟨#[]⟩),(.int .u8 0),(.string ⟨#[]⟩),(.slice none 0 0)]) 64 rfl Tryz.underlying23 info_file rfl (by decide) (by omega) v9 out9 x [.string x.name,.int .u8 x.kind,.string x.data,.slice A1 x.files.length c1] (fun j=>okf j∨w.heap.size+4≤j) (fun j=>okf j∨Wq.heap.size≤j) rfl rfl ?aP ?aK ?aF ?aO ?aB ?aS ?aL ?_
        case aP=>exact file_mkM _ _ _ x HP1.out
        case aK=>exact fun j hj=>⟨hj.imp id fun h=>by omega,fun e=>by
         have h1:=HVO.out j e.symm
         have h2:=Kd.R_lt HVq.out j e.symm
         rcases hj with h | h
         ·have:=HOKF.out j h
          omega
         ·omega⟩
        case aF=>exact fun j hj=>.inr (by omega)
        case aO=>exact HV1.out
        case aB=>exact Below.refl _ _
        case aS=>exact Nat.zero_le _
        case aL=>omega
        intro v2 w2 ho2 hb2 hg2 hat2
        have hs2:=hg2.size
        have HVO2:Hid (∀ j,v2.ownBlock=some j→w.heap.size+4≤j):=Lib.hid fun j hj=>by
         rcases hat2 with h | ⟨b,h,hle⟩
         ·exact HVO.out j (h ▸ hj)
         ·rw [h] at hj
          injection hj with hj
          omega
        have hne:∀ j,j<w.heap.size+4∨j=bx→some j≠v9.ownBlock:=fun j hj e=>by
         have h1:=HVO.out j e.symm
         rcases hj with h | h
         ·omega
         ·exact HBV.out j e.symm h
        have HG3:=Lib.hid ((hg2.block (w.heap.size+3) (by omega) (hne _ (.inl (by omega)))).trans HB1.out.1)
        have HGX:=Lib.hid ((hg2.block bx (by omega) (hne _ (.inr rfl))).trans HB1.out.2.1)
        have HG1:=Lib.hid ((hg2.block (w.heap.size+1) (by omega) (hne _ (.inl (by omega)))).trans HB1.out.2.2)
        have HG2:=Lib.hid ((hg2.block (w.heap.size+2) (by omega) (hne _ (.inl (by omega)))).trans ((hb1'.block (w.heap.size+2) (by omega)).trans HN2q.out))
        have hbw2:Below w.heap.size w w2:=(bstep hbq hbq.size hb1').grown hg2 (Nat.le_trans hbq.size hb1'.size) (fun r e=>by have:=HVO.out r e;omega)
        have HO2:=Lib.hid ho2
        obtain ⟨A2,c2,rfl,hc2,hC2⟩:=Kd.R_reads ho2
        clear ho2 hC2 hHeld hne hat2
        generalize hol2:(out9++[x]).length=ol2 at *
        clear hol2
        refine hK.out _ _ ⟨HG3.out,HGX.out,HG1.out⟩ (fun hHeld => ?_)
        refine nA 64 ?_
        refine pA 6 65 (bw 8 127) ?_
        refine last_ (i:=7) (N:=none) (bw 8 255) rfl rfl (by kernel_rfl) (by decide) (fun K hK => ?_)
        have hcs:w2.cell? ⟨w.heap.size+2+1,3,none⟩=some v9:=cell_of HG3.out rfl
        have hfs:w2.frozen? ⟨w.heap.size+2+1,3,none⟩=false:=unfr HG3.out 3
        refine sA ?_
        refine hK.out _ _ ?_
        refine done_ (by kernel_rfl) ?_
        have HN3':=Lib.hid (blk_put (cs:=#[.string t.name,.int .u8 t.kind,.string t.data,v9]) HG3.out 3 (.slice A2 ol2 c2) rfl)
        have HON:=Lib.hid (Kd.R_far (p:=⟨w.heap.size+3,3,none⟩) HO2.out (fun j hj=>by
         rcases hj with h | h
         ·have:=HOKF.out j h
          simp only
          omega
         ·simp only
          omega) (.slice A2 ol2 c2))
        go_wp2_with fail
        go_roundw
        case rel=>exact ⟨k+1,true,_,out9++[x],by omega,rfl,by go_num,trivial,hbw2.setCell (p:=⟨w.heap.size+3,3,none⟩) (by simp only;omega) _,Lib.hid ((Below.heap_setCell _ _ _ _ (by simp only;omega)).trans HG1.out),Lib.hid ((Below.heap_setCell _ _ _ _ (by simp only;omega)).trans HG2.out),HN3',HON,HVO2,by simp only [List.length_append,List.length_cons,List.length_nil];omega,Lib.hid (by rw [HZ.out,HCH0.out hnm];simp)⟩
        case measure=>simp [RowKit.intOf];omega
       ·have q1:(x.name.toList == n.toList)=true:=hnm
        have q2:(x.name.toList != n.toList)=false:=by rw [bne,q1];rfl
        go_wp2_with fail
        go_quiet (fail)
        have hb9:=bdrewN (Below.refl Wt.heap.size Wt) nq
        have hbq:=bstep hbt hbt.size hb9
        have HN1q:=Lib.hid ((hb9.block _ (blk_lt HN1t.out)).trans HN1t.out)
        have HN2q:=Lib.hid ((hb9.block _ (blk_lt HN2t.out)).trans HN2t.out)
        have HN3q:=Lib.hid ((hb9.block _ (blk_lt HN3t.out)).trans HN3t.out)
        have HXBq:=Lib.hid ((hb9.block _ (blk_lt HXBt.out)).trans HXBt.out)
        have HVq:=Lib.hid (Kd.R_below HVt.out hb9)
        clear HN1t HN2t HN3t HXBt HVt x0 hpn hbt hb9
        generalize Wt.drewN nq=Wq at *
        go_wp2_with fail
        go_roundw
        case rel=>exact ⟨k+1,true,v9,out9,by omega,rfl,by go_num,trivial,hbq,HN1q,HN2q,HN3q,HVq,HVO,by omega,Lib.hid (by rw [HZ.out,HCH1.out hnm];rfl)⟩
        case measure=>simp [RowKit.intOf];omega
      ·have HZ:Hid (Z=out++(chO p2.isEmpty n (withR false f p2) x++withL false f n p2.isEmpty (withR false f p2) (t.files.drop (k+1)) false)):=Lib.hid (by
        have h:insB false n p2.isEmpty false x=false:=by unfold insB;rw [HLS.out,hge];rfl
        have:=HZ1.out
        rw [h] at this
        simpa using this)
       have hol:out.length≤2 * k+1:=by omega
       clear HZ1 HPT
       go_wp2_with fail
       go_quiet (fail)
       have hb9:=bdrewN (Below.refl W1.heap.size W1) nq
       have hbt:=bstep hb1 hb1.size hb9
       have HN1t:=Lib.hid ((hb9.block _ (blk_lt HN11.out)).trans HN11.out)
       have HN2t:=Lib.hid ((hb9.block _ (blk_lt HN21.out)).trans HN21.out)
       have HN3t:=Lib.hid ((hb9.block _ (blk_lt HN31.out)).trans HN31.out)
       have HXBt:=Lib.hid ((hb9.block _ (blk_lt HXB1.out)).trans HXB1.out)
       have HVt:=Lib.hid (Kd.R_below HV1.out hb9)
       clear HN11 HN21 HN31 HXB1 HV1 hb9 x0 hpn
       generalize W1.drewN nq=Wt at *
       go_wp2_with fail
       have x0:Wt.cell? ⟨bx,0,none⟩=some (.string x.name):=cell_of HXBt.out rfl
       have hpn:=HPN.out Wt hbt
       cases hnm:nameIs n x
       ·have q1:(x.name.toList == n.toList)=false:=hnm
        have q2:(x.name.toList != n.toList)=true:=by rw [bne,q1];rfl
        go_wp2_with fail
        go_quiet (fail)
        have hb9:=bdrewN (Below.refl Wt.heap.size Wt) nq
        have hbq:=bstep hbt hbt.size hb9
        have HN1q:=Lib.hid ((hb9.block _ (blk_lt HN1t.out)).trans HN1t.out)
        have HN2q:=Lib.hid ((hb9.block _ (blk_lt HN2t.out)).trans HN2t.out)
        have HN3q:=Lib.hid ((hb9.block _ (blk_lt HN3t.out)).trans HN3t.out)
        have HXBq:=Lib.hid ((hb9.block _ (blk_lt HXBt.out)).trans HXBt.out)
        have HVq:=Lib.hid (Kd.R_below HVt.out hb9)
        clear HN1t HN2t HN3t HXBt HVt x0 hpn hbt hb9
        generalize Wt.drewN nq=Wq at *
        go_wp2_with fail
        have HBX:Hid (∀ W,Below Wq.heap.size Wq W→W.heap[w.heap.size+3]? = some (.cells #[.string t.name,.int .u8 t.kind,.string t.data,v] 25 (0,0))∧W.heap[bx]? = some (.cells (fc x A' c') 25 (0,0))∧W.heap[w.heap.size+1]? = some (.cells (fc f Af cf) 25 (0,0))):=Lib.hid fun W h =>
         ⟨(h.block _ (blk_lt HN3q.out)).trans HN3q.out,(h.block _ (blk_lt HXBq.out)).trans HXBq.out,(h.block _ (blk_lt HN1q.out)).trans HN1q.out⟩
        have hz1:=blk_lt HN1q.out
        have hz2:=blk_lt HN2q.out
        have hz3:=blk_lt HN3q.out
        have hzx:=blk_lt HXBq.out
        have HCP:=Lib.hid (HCPY.out Wq hbq)
        refine start_ (n:=8) (S:=fun w'=>w'.heap[w.heap.size+3]? = some (.cells #[.string t.name,.int .u8 t.kind,.string t.data,v] 25 (0,0))∧w'.heap[bx]? = some (.cells (fc x A' c') 25 (0,0))∧w'.heap[w.heap.size+1]? = some (.cells (fc f Af cf) 25 (0,0))) (ds:=[7]) (bw 8 0) (by kernel_rfl) rfl rfl (HBX.out _ (bdrew (Below.refl _ _))) (fun hHeld => ?_)
        refine pA 0 59 (bw 8 1) ?_
        refine tA 1 60 (bw 8 3) hHeld ?_ (hy:=by
         rintro w' ⟨s0,s1,s2⟩
         have q3:w'.cell? ⟨w.heap.size+2+1,3,none⟩=some v:=cell_of (j:=3) s0 rfl
         go_simp
         with_reducible rfl)
        refine tA 2 61 (bw 8 7) hHeld ?_ (hy:=by
         rintro w' ⟨s0,s1,s2⟩
         have q0:=cell_of (j:=0) s1 rfl
         have q1:=cell_of (j:=1) s1 rfl
         have q2:=cell_of (j:=2) s1 rfl
         have q3:=cell_of (j:=3) s1 rfl
         go_simp
         with_reducible rfl)
        refine eA 3 62 (bw 8 15) (fun K hK => ?_)
        refine gA Tryz.func5 #[.agg (fc x A' c')] ?_
        refine (HCP.out _ (bdrew (Below.refl _ _))).mono ?_
        rintro e w1 ⟨v1,rfl,ho1,hb1'⟩
        refine ⟨_,rfl,?_⟩
        have hs1:=hb1'.size
        have HB1:=Lib.hid (HBX.out _ hb1')
        have HV1:=Lib.hid (Kd.R_below HVq.out hb1')
        have HP1:=Lib.hid ho1
        obtain ⟨A1,c1,rfl,hc1,hC1⟩:=Kd.R_reads ho1
        clear ho1 hC1 hHeld
        refine hK.out _ _ HB1.out (fun hHeld => ?_)
        refine nA 62 ?_
        refine eA 4 63 (bw 8 31) (fun K hK => ?_)
        refine vA ?_
        refine hK.out _ _ (HBX.out _ (below_alloc hb1' (.cells (fc x A1 c1) 25))) (fun hHeld => ?_)
        refine nA 63 ?_
        refine eA 5 64 (bw 8 63) (fun K hK => ?_)
        refine Kd.R_append_step FileK (w0:=w1) 0 (by rfl) (.tmp 60) (.tmp 63) 23 25 (.agg #[(.string ⟨#[]⟩),(.int .u8 0),(.string ⟨#[]⟩),(.slice none 0 0)]) 64 rfl Tryz.underlying23 info_file rfl (by decide) (by omega) v out x [.string x.name,.int .u8 x.kind,.string x.data,.slice A1 x.files.length c1] (fun j=>okf j∨w.heap.size+4≤j) (fun j=>okf j∨Wq.heap.size≤j) rfl rfl ?aP ?aK ?aF ?aO ?aB ?aS ?aL ?_
        case aP=>exact file_mkM _ _ _ x HP1.out
        case aK=>exact fun j hj=>⟨hj.imp id fun h=>by omega,fun e=>by
         have h1:=HVO.out j e.symm
         have h2:=Kd.R_lt HVq.out j e.symm
         rcases hj with h | h
         ·have:=HOKF.out j h
          omega
         ·omega⟩
        case aF=>exact fun j hj=>.inr (by omega)
        case aO=>exact HV1.out
        case aB=>exact Below.refl _ _
        case aS=>exact Nat.zero_le _
        case aL=>omega
        intro v2 w2 ho2 hb2 hg2 hat2
        have hs2:=hg2.size
        have HVO2:Hid (∀ j,v2.ownBlock=some j→w.heap.size+4≤j):=Lib.hid fun j hj=>by
         rcases hat2 with h | ⟨b,h,hle⟩
         ·exact HVO.out j (h ▸ hj)
         ·rw [h] at hj
          injection hj with hj
          omega
        have hne:∀ j,j<w.heap.size+4∨j=bx→some j≠v.ownBlock:=fun j hj e=>by
         have h1:=HVO.out j e.symm
         rcases hj with h | h
         ·omega
         ·exact HBV.out j e.symm h
        have HG3:=Lib.hid ((hg2.block (w.heap.size+3) (by omega) (hne _ (.inl (by omega)))).trans HB1.out.1)
        have HGX:=Lib.hid ((hg2.block bx (by omega) (hne _ (.inr rfl))).trans HB1.out.2.1)
        have HG1:=Lib.hid ((hg2.block (w.heap.size+1) (by omega) (hne _ (.inl (by omega)))).trans HB1.out.2.2)
        have HG2:=Lib.hid ((hg2.block (w.heap.size+2) (by omega) (hne _ (.inl (by omega)))).trans ((hb1'.block (w.heap.size+2) (by omega)).trans HN2q.out))
        have hbw2:Below w.heap.size w w2:=(bstep hbq hbq.size hb1').grown hg2 (Nat.le_trans hbq.size hb1'.size) (fun r e=>by have:=HVO.out r e;omega)
        have HO2:=Lib.hid ho2
        obtain ⟨A2,c2,rfl,hc2,hC2⟩:=Kd.R_reads ho2
        clear ho2 hC2 hHeld hne hat2
        generalize hol2:(out++[x]).length=ol2 at *
        clear hol2
        refine hK.out _ _ ⟨HG3.out,HGX.out,HG1.out⟩ (fun hHeld => ?_)
        refine nA 64 ?_
        refine pA 6 65 (bw 8 127) ?_
        refine last_ (i:=7) (N:=none) (bw 8 255) rfl rfl (by kernel_rfl) (by decide) (fun K hK => ?_)
        have hcs:w2.cell? ⟨w.heap.size+2+1,3,none⟩=some v:=cell_of HG3.out rfl
        have hfs:w2.frozen? ⟨w.heap.size+2+1,3,none⟩=false:=unfr HG3.out 3
        refine sA ?_
        refine hK.out _ _ ?_
        refine done_ (by kernel_rfl) ?_
        have HN3':=Lib.hid (blk_put (cs:=#[.string t.name,.int .u8 t.kind,.string t.data,v]) HG3.out 3 (.slice A2 ol2 c2) rfl)
        have HON:=Lib.hid (Kd.R_far (p:=⟨w.heap.size+3,3,none⟩) HO2.out (fun j hj=>by
         rcases hj with h | h
         ·have:=HOKF.out j h
          simp only
          omega
         ·simp only
          omega) (.slice A2 ol2 c2))
        go_wp2_with fail
        go_roundw
        case rel=>exact ⟨k+1,false,_,out++[x],by omega,rfl,by go_num,trivial,hbw2.setCell (p:=⟨w.heap.size+3,3,none⟩) (by simp only;omega) _,Lib.hid ((Below.heap_setCell _ _ _ _ (by simp only;omega)).trans HG1.out),Lib.hid ((Below.heap_setCell _ _ _ _ (by simp only;omega)).trans HG2.out),HN3',HON,HVO2,by simp only [List.length_append,List.length_cons,List.length_nil];omega,Lib.hid (by rw [HZ.out,HCH0.out hnm];simp)⟩
        case measure=>simp [RowKit.intOf];omega
       ·have q1:(x.name.toList == n.toList)=true:=hnm
        have q2:(x.name.toList != n.toList)=false:=by rw [bne,q1];rfl
        go_wp2_with fail
        go_quiet (fail)
        have hb9:=bdrewN (Below.refl Wt.heap.size Wt) nq
        have hbq:=bstep hbt hbt.size hb9
        have HN1q:=Lib.hid ((hb9.block _ (blk_lt HN1t.out)).trans HN1t.out)
        have HN2q:=Lib.hid ((hb9.block _ (blk_lt HN2t.out)).trans HN2t.out)
        have HN3q:=Lib.hid ((hb9.block _ (blk_lt HN3t.out)).trans HN3t.out)
        have HXBq:=Lib.hid ((hb9.block _ (blk_lt HXBt.out)).trans HXBt.out)
        have HVq:=Lib.hid (Kd.R_below HVt.out hb9)
        clear HN1t HN2t HN3t HXBt HVt x0 hpn hbt hb9
        generalize Wt.drewN nq=Wq at *
        go_wp2_with fail
        go_roundw
        case rel=>exact ⟨k+1,false,v,out,by omega,rfl,by go_num,trivial,hbq,HN1q,HN2q,HN3q,HVq,HVO,by omega,Lib.hid (by rw [HZ.out,HCH1.out hnm];rfl)⟩
        case measure=>simp [RowKit.intOf];omega
     ·have HZ:Hid (Z=out++(chO p2.isEmpty n (withR true f p2) x++withL true f n p2.isEmpty (withR true f p2) (t.files.drop (k+1)) false)):=Lib.hid (by
       have h:insB true n p2.isEmpty false x=false:=by unfold insB;rw [HLS.out];rfl
       have:=HZ1.out
       rw [h] at this
       simpa using this)
      have hol:out.length≤2 * k+1:=by omega
      clear HZ1 HPT
      go_wp2_with fail
      go_quiet (fail)
      have hb9:=bdrewN (Below.refl W1.heap.size W1) nq
      have hbt:=bstep hb1 hb1.size hb9
      have HN1t:=Lib.hid ((hb9.block _ (blk_lt HN11.out)).trans HN11.out)
      have HN2t:=Lib.hid ((hb9.block _ (blk_lt HN21.out)).trans HN21.out)
      have HN3t:=Lib.hid ((hb9.block _ (blk_lt HN31.out)).trans HN31.out)
      have HXBt:=Lib.hid ((hb9.block _ (blk_lt HXB1.out)).trans HXB1.out)
      have HVt:=Lib.hid (Kd.R_below HV1.out hb9)
      clear HN11 HN21 HN31 HXB1 HV1 hb9 x0 hpn
      generalize W1.drewN nq=Wt at *
      go_wp2_with fail
      have x0:Wt.cell? ⟨bx,0,none⟩=some (.string x.name):=cell_of HXBt.out rfl
      have hpn:=HPN.out Wt hbt
      cases hnm:nameIs n x
      ·have q1:(x.name.toList == n.toList)=false:=hnm
       have q2:(x.name.toList != n.toList)=true:=by rw [bne,q1];rfl
       go_wp2_with fail
       go_quiet (fail)
       have hb9:=bdrewN (Below.refl Wt.heap.size Wt) nq
       have hbq:=bstep hbt hbt.size hb9
       have HN1q:=Lib.hid ((hb9.block _ (blk_lt HN1t.out)).trans HN1t.out)
       have HN2q:=Lib.hid ((hb9.block _ (blk_lt HN2t.out)).trans HN2t.out)
       have HN3q:=Lib.hid ((hb9.block _ (blk_lt HN3t.out)).trans HN3t.out)
       have HXBq:=Lib.hid ((hb9.block _ (blk_lt HXBt.out)).trans HXBt.out)
       have HVq:=Lib.hid (Kd.R_below HVt.out hb9)
       clear HN1t HN2t HN3t HXBt HVt x0 hpn hbt hb9
       generalize Wt.drewN nq=Wq at *
       go_wp2_with fail
       have HBX:Hid (∀ W,Below Wq.heap.size Wq W→W.heap[w.heap.size+3]? = some (.cells #[.string t.name,.int .u8 t.kind,.string t.data,v] 25 (0,0))∧W.heap[bx]? = some (.cells (fc x A' c') 25 (0,0))∧W.heap[w.heap.size+1]? = some (.cells (fc f Af cf) 25 (0,0))):=Lib.hid fun W h =>
        ⟨(h.block _ (blk_lt HN3q.out)).trans HN3q.out,(h.block _ (blk_lt HXBq.out)).trans HXBq.out,(h.block _ (blk_lt HN1q.out)).trans HN1q.out⟩
       have hz1:=blk_lt HN1q.out
       have hz2:=blk_lt HN2q.out
       have hz3:=blk_lt HN3q.out
       have hzx:=blk_lt HXBq.out
       have HCP:=Lib.hid (HCPY.out Wq hbq)
       refine start_ (n:=8) (S:=fun w'=>w'.heap[w.heap.size+3]? = some (.cells #[.string t.name,.int .u8 t.kind,.string t.data,v] 25 (0,0))∧w'.heap[bx]? = some (.cells (fc x A' c') 25 (0,0))∧w'.heap[w.heap.size+1]? = some (.cells (fc f Af cf) 25 (0,0))) (ds:=[7]) (bw 8 0) (by kernel_rfl) rfl rfl (HBX.out _ (bdrew (Below.refl _ _))) (fun hHeld => ?_)
       refine pA 0 59 (bw 8 1) ?_
       refine tA 1 60 (bw 8 3) hHeld ?_ (hy:=by
        rintro w' ⟨s0,s1,s2⟩
        have q3:w'.cell? ⟨w.heap.size+2+1,3,none⟩=some v:=cell_of (j:=3) s0 rfl
        go_simp
        with_reducible rfl)
       refine tA 2 61 (bw 8 7) hHeld ?_ (hy:=by
        rintro w' ⟨s0,s1,s2⟩
        have q0:=cell_of (j:=0) s1 rfl
        have q1:=cell_of (j:=1) s1 rfl
        have q2:=cell_of (j:=2) s1 rfl
        have q3:=cell_of (j:=3) s1 rfl
        go_simp
        with_reducible rfl)
       refine eA 3 62 (bw 8 15) (fun K hK => ?_)
       refine gA Tryz.func5 #[.agg (fc x A' c')] ?_
       refine (HCP.out _ (bdrew (Below.refl _ _))).mono ?_
       rintro e w1 ⟨v1,rfl,ho1,hb1'⟩
       refine ⟨_,rfl,?_⟩
       have hs1:=hb1'.size
       have HB1:=Lib.hid (HBX.out _ hb1')
       have HV1:=Lib.hid (Kd.R_below HVq.out hb1')
       have HP1:=Lib.hid ho1
       obtain ⟨A1,c1,rfl,hc1,hC1⟩:=Kd.R_reads ho1
       clear ho1 hC1 hHeld
       refine hK.out _ _ HB1.out (fun hHeld => ?_)
       refine nA 62 ?_
       refine eA 4 63 (bw 8 31) (fun K hK => ?_)
       refine vA ?_
       refine hK.out _ _ (HBX.out _ (below_alloc hb1' (.cells (fc x A1 c1) 25))) (fun hHeld => ?_)
       refine nA 63 ?_
       refine eA 5 64 (bw 8 63) (fun K hK => ?_)
       refine Kd.R_append_step FileK (w0:=w1) 0 (by rfl) (.tmp 60) (.tmp 63) 23 25 (.agg #[(.string ⟨#[]⟩),(.int .u8 0),(.string ⟨#[]⟩),(.slice none 0 0)]) 64 rfl Tryz.underlying23 info_file rfl (by decide) (by omega) v out x [.string x.name,.int .u8 x.kind,.string x.data,.slice A1 x.files.length c1] (fun j=>okf j∨w.heap.size+4≤j) (fun j=>okf j∨Wq.heap.size≤j) rfl rfl ?aP ?aK ?aF ?aO ?aB ?aS ?aL ?_
       case aP=>exact file_mkM _ _ _ x HP1.out
       case aK=>exact fun j hj=>⟨hj.imp id fun h=>by omega,fun e=>by
        have h1:=HVO.out j e.symm
        have h2:=Kd.R_lt HVq.out j e.symm
        rcases hj with h | h
        ·have:=HOKF.out j h
         omega
        ·omega⟩
       case aF=>exact fun j hj=>.inr (by omega)
       case aO=>exact HV1.out
       case aB=>exact Below.refl _ _
       case aS=>exact Nat.zero_le _
       case aL=>omega
       intro v2 w2 ho2 hb2 hg2 hat2
       have hs2:=hg2.size
       have HVO2:Hid (∀ j,v2.ownBlock=some j→w.heap.size+4≤j):=Lib.hid fun j hj=>by
        rcases hat2 with h | ⟨b,h,hle⟩
        ·exact HVO.out j (h ▸ hj)
        ·rw [h] at hj
         injection hj with hj
         omega
       have hne:∀ j,j<w.heap.size+4∨j=bx→some j≠v.ownBlock:=fun j hj e=>by
        have h1:=HVO.out j e.symm
        rcases hj with h | h
        ·omega
        ·exact HBV.out j e.symm h
       have HG3:=Lib.hid ((hg2.block (w.heap.size+3) (by omega) (hne _ (.inl (by omega)))).trans HB1.out.1)
       have HGX:=Lib.hid ((hg2.block bx (by omega) (hne _ (.inr rfl))).trans HB1.out.2.1)
       have HG1:=Lib.hid ((hg2.block (w.heap.size+1) (by omega) (hne _ (.inl (by omega)))).trans HB1.out.2.2)
       have HG2:=Lib.hid ((hg2.block (w.heap.size+2) (by omega) (hne _ (.inl (by omega)))).trans ((hb1'.block (w.heap.size+2) (by omega)).trans HN2q.out))
       have hbw2:Below w.heap.size w w2:=(bstep hbq hbq.size hb1').grown hg2 (Nat.le_trans hbq.size hb1'.size) (fun r e=>by have:=HVO.out r e;omega)
       have HO2:=Lib.hid ho2
       obtain ⟨A2,c2,rfl,hc2,hC2⟩:=Kd.R_reads ho2
       clear ho2 hC2 hHeld hne hat2
       generalize hol2:(out++[x]).length=ol2 at *
       clear hol2
       refine hK.out _ _ ⟨HG3.out,HGX.out,HG1.out⟩ (fun hHeld => ?_)
       refine nA 64 ?_
       refine pA 6 65 (bw 8 127) ?_
       refine last_ (i:=7) (N:=none) (bw 8 255) rfl rfl (by kernel_rfl) (by decide) (fun K hK => ?_)
       have hcs:w2.cell? ⟨w.heap.size+2+1,3,none⟩=some v:=cell_of HG3.out rfl
       have hfs:w2.frozen? ⟨w.heap.size+2+1,3,none⟩=false:=unfr HG3.out 3
       refine sA ?_
       refine hK.out _ _ ?_
       refine done_ (by kernel_rfl) ?_
       have HN3':=Lib.hid (blk_put (cs:=#[.string t.name,.int .u8 t.kind,.string t.data,v]) HG3.out 3 (.slice A2 ol2 c2) rfl)
       have HON:=Lib.hid (Kd.R_far (p:=⟨w.heap.size+3,3,none⟩) HO2.out (fun j hj=>by
        rcases hj with h | h
        ·have:=HOKF.out j h
         simp only
         omega
        ·simp only
         omega) (.slice A2 ol2 c2))
       go_wp2_with fail
       go_roundw
       case rel=>exact ⟨k+1,false,_,out++[x],by omega,rfl,by go_num,trivial,hbw2.setCell (p:=⟨w.heap.size+3,3,none⟩) (by simp only;omega) _,Lib.hid ((Below.heap_setCell _ _ _ _ (by simp only;omega)).trans HG1.out),Lib.hid ((Below.heap_setCell _ _ _ _ (by simp only;omega)).trans HG2.out),HN3',HON,HVO2,by simp only [List.length_append,List.length_cons,List.length_nil];omega,Lib.hid (by rw [HZ.out,HCH0.out hnm];simp)⟩
       case measure=>simp [RowKit.intOf];omega
      ·have q1:(x.name.toList == n.toList)=true:=hnm
       have q2:(x.name.toList != n.toList)=false:=by rw [bne,q1];rfl
       go_wp2_with fail
       go_quiet (fail)
       have hb9:=bdrewN (Below.refl Wt.heap.size Wt) nq
       have hbq:=bstep hbt hbt.size hb9
       have HN1q:=Lib.hid ((hb9.block _ (blk_lt HN1t.out)).trans HN1t.out)
       have HN2q:=Lib.hid ((hb9.block _ (blk_lt HN2t.out)).trans HN2t.out)
       have HN3q:=Lib.hid ((hb9.block _ (blk_lt HN3t.out)).trans HN3t.out)
       have HXBq:=Lib.hid ((hb9.block _ (blk_lt HXBt.out)).trans HXBt.out)
       have HVq:=Lib.hid (Kd.R_below HVt.out hb9)
       clear HN1t HN2t HN3t HXBt HVt x0 hpn hbt hb9
       generalize Wt.drewN nq=Wq at *
       go_wp2_with fail
       go_roundw
       case rel=>exact ⟨k+1,false,v,out,by omega,rfl,by go_num,trivial,hbq,HN1q,HN2q,HN3q,HVq,HVO,by omega,Lib.hid (by rw [HZ.out,HCH1.out hnm];rfl)⟩
       case measure=>simp [RowKit.intOf];omega
    ·have HZ:Hid (Z=out++(chO p2.isEmpty n (withR gone f p2) x++withL gone f n p2.isEmpty (withR gone f p2) (t.files.drop (k+1)) true)):=Lib.hid (by
      have h:insB gone n p2.isEmpty true x=false:=by unfold insB;rw [HLS.out];rfl
      have:=HZ1.out
      rw [h] at this
      simpa using this)
     have hol:out.length≤2 * k+1:=by omega
     clear HZ1 HPT
     go_wp2_with fail
     go_quiet (fail)
     have hb9:=bdrewN (Below.refl W1.heap.size W1) nq
     have hbt:=bstep hb1 hb1.size hb9
     have HN1t:=Lib.hid ((hb9.block _ (blk_lt HN11.out)).trans HN11.out)
     have HN2t:=Lib.hid ((hb9.block _ (blk_lt HN21.out)).trans HN21.out)
     have HN3t:=Lib.hid ((hb9.block _ (blk_lt HN31.out)).trans HN31.out)
     have HXBt:=Lib.hid ((hb9.block _ (blk_lt HXB1.out)).trans HXB1.out)
     have HVt:=Lib.hid (Kd.R_below HV1.out hb9)
     clear HN11 HN21 HN31 HXB1 HV1 hb9 x0 hpn
     generalize W1.drewN nq=Wt at *
     go_wp2_with fail
     have x0:Wt.cell? ⟨bx,0,none⟩=some (.string x.name):=cell_of HXBt.out rfl
     have hpn:=HPN.out Wt hbt
     cases hnm:nameIs n x
     ·have q1:(x.name.toList == n.toList)=false:=hnm
      have q2:(x.name.toList != n.toList)=true:=by rw [bne,q1];rfl
      go_wp2_with fail
      go_quiet (fail)
      have hb9:=bdrewN (Below.refl Wt.heap.size Wt) nq
      have hbq:=bstep hbt hbt.size hb9
      have HN1q:=Lib.hid ((hb9.block _ (blk_lt HN1t.out)).trans HN1t.out)
      have HN2q:=Lib.hid ((hb9.block _ (blk_lt HN2t.out)).trans HN2t.out)
      have HN3q:=Lib.hid ((hb9.block _ (blk_lt HN3t.out)).trans HN3t.out)
      have HXBq:=Lib.hid ((hb9.block _ (blk_lt HXBt.out)).trans HXBt.out)
      have HVq:=Lib.hid (Kd.R_below HVt.out hb9)
      clear HN1t HN2t HN3t HXBt HVt x0 hpn hbt hb9
      generalize Wt.drewN nq=Wq at *
      go_wp2_with fail
      have HBX:Hid (∀ W,Below Wq.heap.size Wq W→W.heap[w.heap.size+3]? = some (.cells #[.string t.name,.int .u8 t.kind,.string t.data,v] 25 (0,0))∧W.heap[bx]? = some (.cells (fc x A' c') 25 (0,0))∧W.heap[w.heap.size+1]? = some (.cells (fc f Af cf) 25 (0,0))):=Lib.hid fun W h =>
       ⟨(h.block _ (blk_lt HN3q.out)).trans HN3q.out,(h.block _ (blk_lt HXBq.out)).trans HXBq.out,(h.block _ (blk_lt HN1q.out)).trans HN1q.out⟩
      have hz1:=blk_lt HN1q.out
      have hz2:=blk_lt HN2q.out
      have hz3:=blk_lt HN3q.out
      have hzx:=blk_lt HXBq.out
      have HCP:=Lib.hid (HCPY.out Wq hbq)
      refine start_ (n:=8) (S:=fun w'=>w'.heap[w.heap.size+3]? = some (.cells #[.string t.name,.int .u8 t.kind,.string t.data,v] 25 (0,0))∧w'.heap[bx]? = some (.cells (fc x A' c') 25 (0,0))∧w'.heap[w.heap.size+1]? = some (.cells (fc f Af cf) 25 (0,0))) (ds:=[7]) (bw 8 0) (by kernel_rfl) rfl rfl (HBX.out _ (bdrew (Below.refl _ _))) (fun hHeld => ?_)
      refine pA 0 59 (bw 8 1) ?_
      refine tA 1 60 (bw 8 3) hHeld ?_ (hy:=by
       rintro w' ⟨s0,s1,s2⟩
       have q3:w'.cell? ⟨w.heap.size+2+1,3,none⟩=some v:=cell_of (j:=3) s0 rfl
       go_simp
       with_reducible rfl)
      refine tA 2 61 (bw 8 7) hHeld ?_ (hy:=by
       rintro w' ⟨s0,s1,s2⟩
       have q0:=cell_of (j:=0) s1 rfl
       have q1:=cell_of (j:=1) s1 rfl
       have q2:=cell_of (j:=2) s1 rfl
       have q3:=cell_of (j:=3) s1 rfl
       go_simp
       with_reducible rfl)
      refine eA 3 62 (bw 8 15) (fun K hK => ?_)
      refine gA Tryz.func5 #[.agg (fc x A' c')] ?_
      refine (HCP.out _ (bdrew (Below.refl _ _))).mono ?_
      rintro e w1 ⟨v1,rfl,ho1,hb1'⟩
      refine ⟨_,rfl,?_⟩
      have hs1:=hb1'.size
      have HB1:=Lib.hid (HBX.out _ hb1')
      have HV1:=Lib.hid (Kd.R_below HVq.out hb1')
      have HP1:=Lib.hid ho1
      obtain ⟨A1,c1,rfl,hc1,hC1⟩:=Kd.R_reads ho1
      clear ho1 hC1 hHeld
      refine hK.out _ _ HB1.out (fun hHeld => ?_)
      refine nA 62 ?_
      refine eA 4 63 (bw 8 31) (fun K hK => ?_)
      refine vA ?_
      refine hK.out _ _ (HBX.out _ (below_alloc hb1' (.cells (fc x A1 c1) 25))) (fun hHeld => ?_)
      refine nA 63 ?_
      refine eA 5 64 (bw 8 63) (fun K hK => ?_)
      refine Kd.R_append_step FileK (w0:=w1) 0 (by rfl) (.tmp 60) (.tmp 63) 23 25 (.agg #[(.string ⟨#[]⟩),(.int .u8 0),(.string ⟨#[]⟩),(.slice none 0 0)]) 64 rfl Tryz.underlying23 info_file rfl (by decide) (by omega) v out x [.string x.name,.int .u8 x.kind,.string x.data,.slice A1 x.files.length c1] (fun j=>okf j∨w.heap.size+4≤j) (fun j=>okf j∨Wq.heap.size≤j) rfl rfl ?aP ?aK ?aF ?aO ?aB ?aS ?aL ?_
      case aP=>exact file_mkM _ _ _ x HP1.out
      case aK=>exact fun j hj=>⟨hj.imp id fun h=>by omega,fun e=>by
       have h1:=HVO.out j e.symm
       have h2:=Kd.R_lt HVq.out j e.symm
       rcases hj with h | h
       ·have:=HOKF.out j h
        omega
       ·omega⟩
      case aF=>exact fun j hj=>.inr (by omega)
      case aO=>exact HV1.out
      case aB=>exact Below.refl _ _
      case aS=>exact Nat.zero_le _
      case aL=>omega
      intro v2 w2 ho2 hb2 hg2 hat2
      have hs2:=hg2.size
      have HVO2:Hid (∀ j,v2.ownBlock=some j→w.heap.size+4≤j):=Lib.hid fun j hj=>by
       rcases hat2 with h | ⟨b,h,hle⟩
       ·exact HVO.out j (h ▸ hj)
       ·rw [h] at hj
        injection hj with hj
        omega
      have hne:∀ j,j<w.heap.size+4∨j=bx→some j≠v.ownBlock:=fun j hj e=>by
       have h1:=HVO.out j e.symm
       rcases hj with h | h
       ·omega
       ·exact HBV.out j e.symm h
      have HG3:=Lib.hid ((hg2.block (w.heap.size+3) (by omega) (hne _ (.inl (by omega)))).trans HB1.out.1)
      have HGX:=Lib.hid ((hg2.block bx (by omega) (hne _ (.inr rfl))).trans HB1.out.2.1)
      have HG1:=Lib.hid ((hg2.block (w.heap.size+1) (by omega) (hne _ (.inl (by omega)))).trans HB1.out.2.2)
      have HG2:=Lib.hid ((hg2.block (w.heap.size+2) (by omega) (hne _ (.inl (by omega)))).trans ((hb1'.block (w.heap.size+2) (by omega)).trans HN2q.out))
      have hbw2:Below w.heap.size w w2:=(bstep hbq hbq.size hb1').grown hg2 (Nat.le_trans hbq.size hb1'.size) (fun r e=>by have:=HVO.out r e;omega)
      have HO2:=Lib.hid ho2
      obtain ⟨A2,c2,rfl,hc2,hC2⟩:=Kd.R_reads ho2
      clear ho2 hC2 hHeld hne hat2
      generalize hol2:(out++[x]).length=ol2 at *
      clear hol2
      refine hK.out _ _ ⟨HG3.out,HGX.out,HG1.out⟩ (fun hHeld => ?_)
      refine nA 64 ?_
      refine pA 6 65 (bw 8 127) ?_
      refine last_ (i:=7) (N:=none) (bw 8 255) rfl rfl (by kernel_rfl) (by decide) (fun K hK => ?_)
      have hcs:w2.cell? ⟨w.heap.size+2+1,3,none⟩=some v:=cell_of HG3.out rfl
      have hfs:w2.frozen? ⟨w.heap.size+2+1,3,none⟩=false:=unfr HG3.out 3
      refine sA ?_
      refine hK.out _ _ ?_
      refine done_ (by kernel_rfl) ?_
      have HN3':=Lib.hid (blk_put (cs:=#[.string t.name,.int .u8 t.kind,.string t.data,v]) HG3.out 3 (.slice A2 ol2 c2) rfl)
      have HON:=Lib.hid (Kd.R_far (p:=⟨w.heap.size+3,3,none⟩) HO2.out (fun j hj=>by
       rcases hj with h | h
       ·have:=HOKF.out j h
        simp only
        omega
       ·simp only
        omega) (.slice A2 ol2 c2))
      go_wp2_with fail
      go_roundw
      case rel=>exact ⟨k+1,true,_,out++[x],by omega,rfl,by go_num,trivial,hbw2.setCell (p:=⟨w.heap.size+3,3,none⟩) (by simp only;omega) _,Lib.hid ((Below.heap_setCell _ _ _ _ (by simp only;omega)).trans HG1.out),Lib.hid ((Below.heap_setCell _ _ _ _ (by simp only;omega)).trans HG2.out),HN3',HON,HVO2,by simp only [List.length_append,List.length_cons,List.length_nil];omega,Lib.hid (by rw [HZ.out,HCH0.out hnm];simp)⟩
      case measure=>simp [RowKit.intOf];omega
     ·have q1:(x.name.toList == n.toList)=true:=hnm
      have q2:(x.name.toList != n.toList)=false:=by rw [bne,q1];rfl
      go_wp2_with fail
      go_quiet (fail)
      have hb9:=bdrewN (Below.refl Wt.heap.size Wt) nq
      have hbq:=bstep hbt hbt.size hb9
      have HN1q:=Lib.hid ((hb9.block _ (blk_lt HN1t.out)).trans HN1t.out)
      have HN2q:=Lib.hid ((hb9.block _ (blk_lt HN2t.out)).trans HN2t.out)
      have HN3q:=Lib.hid ((hb9.block _ (blk_lt HN3t.out)).trans HN3t.out)
      have HXBq:=Lib.hid ((hb9.block _ (blk_lt HXBt.out)).trans HXBt.out)
      have HVq:=Lib.hid (Kd.R_below HVt.out hb9)
      clear HN1t HN2t HN3t HXBt HVt x0 hpn hbt hb9
      generalize Wt.drewN nq=Wq at *
      go_wp2_with fail
      go_roundw
      case rel=>exact ⟨k+1,true,v,out,by omega,rfl,by go_num,trivial,hbq,HN1q,HN2q,HN3q,HVq,HVO,by omega,Lib.hid (by rw [HZ.out,HCH1.out hnm];rfl)⟩
      case measure=>simp [RowKit.intOf];omega
   ·have HCH1:Hid (nameIs n x=true→chO p2.isEmpty n (withR gone f p2) x=[withR gone f p2 x]):=Lib.hid fun h=>by unfold chO;rw [if_pos h,if_neg (by cases p2 with | nil=>exact absurd rfl hp2 | cons a b=>simp)]
    have hp3:=List.length_pos_iff.2 hp2
    have hlp2:=HLP.out
    have l1:((lp:Int) == 1)=false:=by rw [beq_eq_false_iff_ne];omega
    have l2:(1:Int)<(lp:Int):=by omega
    have l3:decide ((lp:Int) > 1)=true:=decide_eq_true (by omega)
    have l4:(1:Int)≤(lp:Int):=by omega
    have l5:((lp:Int) - 1)=(p2.length:Int):=by omega
    have l6:lp - 1=p2.length:=by omega
    have l7:cp≠1:=by omega
    clear hlp2
    have HWTH:=Lib.hid (HWTH.out hp2)
    have HZ:Hid (Z=out++(chO p2.isEmpty n (withR gone f p2) x++withL gone f n p2.isEmpty (withR gone f p2) (t.files.drop (k+1)) put)):=Lib.hid (by
     have h:insB gone n p2.isEmpty put x=false:=by unfold insB;rw [show p2.isEmpty=false by cases p2 with | nil=>exact absurd rfl hp2 | cons a b=>rfl];rfl
     have:=HZ1.out
     rw [h] at this
     simpa using this)
    have hol:out.length≤2 * k+1:=by omega
    clear HI HZ1 HPT
    go_wp2_with fail
    go_quiet (fail)
    have hb9:=bdrewN (Below.refl W1.heap.size W1) nq
    have hbt:=bstep hb1 hb1.size hb9
    have HN1t:=Lib.hid ((hb9.block _ (blk_lt HN11.out)).trans HN11.out)
    have HN2t:=Lib.hid ((hb9.block _ (blk_lt HN21.out)).trans HN21.out)
    have HN3t:=Lib.hid ((hb9.block _ (blk_lt HN31.out)).trans HN31.out)
    have HXBt:=Lib.hid ((hb9.block _ (blk_lt HXB1.out)).trans HXB1.out)
    have HVt:=Lib.hid (Kd.R_below HV1.out hb9)
    clear HN11 HN21 HN31 HXB1 HV1 hb9 x0 hpn
    generalize W1.drewN nq=Wt at *
    go_wp2_with fail
    have x0:Wt.cell? ⟨bx,0,none⟩=some (.string x.name):=cell_of HXBt.out rfl
    have hpn:=HPN.out Wt hbt
    cases hnm:nameIs n x
    ·have q1:(x.name.toList == n.toList)=false:=hnm
     have q2:(x.name.toList != n.toList)=true:=by rw [bne,q1];rfl
     go_wp2_with fail
     go_quiet (fail)
     have hb9:=bdrewN (Below.refl Wt.heap.size Wt) nq
     have hbq:=bstep hbt hbt.size hb9
     have HN1q:=Lib.hid ((hb9.block _ (blk_lt HN1t.out)).trans HN1t.out)
     have HN2q:=Lib.hid ((hb9.block _ (blk_lt HN2t.out)).trans HN2t.out)
     have HN3q:=Lib.hid ((hb9.block _ (blk_lt HN3t.out)).trans HN3t.out)
     have HXBq:=Lib.hid ((hb9.block _ (blk_lt HXBt.out)).trans HXBt.out)
     have HVq:=Lib.hid (Kd.R_below HVt.out hb9)
     clear HN1t HN2t HN3t HXBt HVt x0 hpn hbt hb9
     generalize Wt.drewN nq=Wq at *
     go_wp2_with fail
     have HBX:Hid (∀ W,Below Wq.heap.size Wq W→W.heap[w.heap.size+3]? = some (.cells #[.string t.name,.int .u8 t.kind,.string t.data,v] 25 (0,0))∧W.heap[bx]? = some (.cells (fc x A' c') 25 (0,0))∧W.heap[w.heap.size+1]? = some (.cells (fc f Af cf) 25 (0,0))):=Lib.hid fun W h =>
      ⟨(h.block _ (blk_lt HN3q.out)).trans HN3q.out,(h.block _ (blk_lt HXBq.out)).trans HXBq.out,(h.block _ (blk_lt HN1q.out)).trans HN1q.out⟩
     have hz1:=blk_lt HN1q.out
     have hz2:=blk_lt HN2q.out
     have hz3:=blk_lt HN3q.out
     have hzx:=blk_lt HXBq.out
     have HCP:=Lib.hid (HCPY.out Wq hbq)
     refine start_ (n:=8) (S:=fun w'=>w'.heap[w.heap.size+3]? = some (.cells #[.string t.name,.int .u8 t.kind,.string t.data,v] 25 (0,0))∧w'.heap[bx]? = some (.cells (fc x A' c') 25 (0,0))∧w'.heap[w.heap.size+1]? = some (.cells (fc f Af cf) 25 (0,0))) (ds:=[7]) (bw 8 0) (by kernel_rfl) rfl rfl (HBX.out _ (bdrew (Below.refl _ _))) (fun hHeld => ?_)
     refine pA 0 59 (bw 8 1) ?_
     refine tA 1 60 (bw 8 3) hHeld ?_ (hy:=by
      rintro w' ⟨s0,s1,s2⟩
      have q3:w'.cell? ⟨w.heap.size+2+1,3,none⟩=some v:=cell_of (j:=3) s0 rfl
      go_simp
      with_reducible rfl)
     refine tA 2 61 (bw 8 7) hHeld ?_ (hy:=by
      rintro w' ⟨s0,s1,s2⟩
      have q0:=cell_of (j:=0) s1 rfl
      have q1:=cell_of (j:=1) s1 rfl
      have q2:=cell_of (j:=2) s1 rfl
      have q3:=cell_of (j:=3) s1 rfl
      go_simp
      with_reducible rfl)
     refine eA 3 62 (bw 8 15) (fun K hK => ?_)
     refine gA Tryz.func5 #[.agg (fc x A' c')] ?_
     refine (HCP.out _ (bdrew (Below.refl _ _))).mono ?_
     rintro e w1 ⟨v1,rfl,ho1,hb1'⟩
     refine ⟨_,rfl,?_⟩
     have hs1:=hb1'.size
     have HB1:=Lib.hid (HBX.out _ hb1')
     have HV1:=Lib.hid (Kd.R_below HVq.out hb1')
     have HP1:=Lib.hid ho1
     obtain ⟨A1,c1,rfl,hc1,hC1⟩:=Kd.R_reads ho1
     clear ho1 hC1 hHeld
     refine hK.out _ _ HB1.out (fun hHeld => ?_)
     refine nA 62 ?_
     refine eA 4 63 (bw 8 31) (fun K hK => ?_)
     refine vA ?_
     refine hK.out _ _ (HBX.out _ (below_alloc hb1' (.cells (fc x A1 c1) 25))) (fun hHeld => ?_)
     refine nA 63 ?_
     refine eA 5 64 (bw 8 63) (fun K hK => ?_)
     refine Kd.R_append_step FileK (w0:=w1) 0 (by rfl) (.tmp 60) (.tmp 63) 23 25 (.agg #[(.string ⟨#[]⟩),(.int .u8 0),(.string ⟨#[]⟩),(.slice none 0 0)]) 64 rfl Tryz.underlying23 info_file rfl (by decide) (by omega) v out x [.string x.name,.int .u8 x.kind,.string x.data,.slice A1 x.files.length c1] (fun j=>okf j∨w.heap.size+4≤j) (fun j=>okf j∨Wq.heap.size≤j) rfl rfl ?aP ?aK ?aF ?aO ?aB ?aS ?aL ?_
     case aP=>exact file_mkM _ _ _ x HP1.out
     case aK=>exact fun j hj=>⟨hj.imp id fun h=>by omega,fun e=>by
      have h1:=HVO.out j e.symm
      have h2:=Kd.R_lt HVq.out j e.symm
      rcases hj with h | h
      ·have:=HOKF.out j h
       omega
      ·omega⟩
     case aF=>exact fun j hj=>.inr (by omega)
     case aO=>exact HV1.out
     case aB=>exact Below.refl _ _
     case aS=>exact Nat.zero_le _
     case aL=>omega
     intro v2 w2 ho2 hb2 hg2 hat2
     have hs2:=hg2.size
     have HVO2:Hid (∀ j,v2.ownBlock=some j→w.heap.size+4≤j):=Lib.hid fun j hj=>by
      rcases hat2 with h | ⟨b,h,hle⟩
      ·exact HVO.out j (h ▸ hj)
      ·rw [h] at hj
       injection hj with hj
       omega
     have hne:∀ j,j<w.heap.size+4∨j=bx→some j≠v.ownBlock:=fun j hj e=>by
      have h1:=HVO.out j e.symm
      rcases hj with h | h
      ·omega
      ·exact HBV.out j e.symm h
     have HG3:=Lib.hid ((hg2.block (w.heap.size+3) (by omega) (hne _ (.inl (by omega)))).trans HB1.out.1)
     have HGX:=Lib.hid ((hg2.block bx (by omega) (hne _ (.inr rfl))).trans HB1.out.2.1)
     have HG1:=Lib.hid ((hg2.block (w.heap.size+1) (by omega) (hne _ (.inl (by omega)))).trans HB1.out.2.2)
     have HG2:=Lib.hid ((hg2.block (w.heap.size+2) (by omega) (hne _ (.inl (by omega)))).trans ((hb1'.block (w.heap.size+2) (by omega)).trans HN2q.out))
     have hbw2:Below w.heap.size w w2:=(bstep hbq hbq.size hb1').grown hg2 (Nat.le_trans hbq.size hb1'.size) (fun r e=>by have:=HVO.out r e;omega)
     have HO2:=Lib.hid ho2
     obtain ⟨A2,c2,rfl,hc2,hC2⟩:=Kd.R_reads ho2
     clear ho2 hC2 hHeld hne hat2
     generalize hol2:(out++[x]).length=ol2 at *
     clear hol2
     refine hK.out _ _ ⟨HG3.out,HGX.out,HG1.out⟩ (fun hHeld => ?_)
     refine nA 64 ?_
     refine pA 6 65 (bw 8 127) ?_
     refine last_ (i:=7) (N:=none) (bw 8 255) rfl rfl (by kernel_rfl) (by decide) (fun K hK => ?_)
     have hcs:w2.cell? ⟨w.heap.size+2+1,3,none⟩=some v:=cell_of HG3.out rfl
     have hfs:w2.frozen? ⟨w.heap.size+2+1,3,none⟩=false:=unfr HG3.out 3
     refine sA ?_
     refine hK.out _ _ ?_
     refine done_ (by kernel_rfl) ?_
     have HN3':=Lib.hid (blk_put (cs:=#[.string t.name,.int .u8 t.kind,.string t.data,v]) HG3.out 3 (.slice A2 ol2 c2) rfl)
     have HON:=Lib.hid (Kd.R_far (p:=⟨w.heap.size+3,3,none⟩) HO2.out (fun j hj=>by
      rcases hj with h | h
      ·have:=HOKF.out j h
       simp only
       omega
      ·simp only
       omega) (.slice A2 ol2 c2))
     go_wp2_with fail
     go_roundw
     case rel=>exact ⟨k+1,put,_,out++[x],by omega,rfl,by go_num,trivial,hbw2.setCell (p:=⟨w.heap.size+3,3,none⟩) (by simp only;omega) _,Lib.hid ((Below.heap_setCell _ _ _ _ (by simp only;omega)).trans HG1.out),Lib.hid ((Below.heap_setCell _ _ _ _ (by simp only;omega)).trans HG2.out),HN3',HON,HVO2,by simp only [List.length_append,List.length_cons,List.length_nil];omega,Lib.hid (by rw [HZ.out,HCH0.out hnm];simp)⟩
     case measure=>simp [RowKit.intOf];omega
    ·have q1:(x.name.toList == n.toList)=true:=hnm
     have q2:(x.name.toList != n.toList)=false:=by rw [bne,q1];rfl
     go_wp2_with fail
     go_quiet (fail)
     have hb9:=bdrewN (Below.refl Wt.heap.size Wt) nq
     have hbq:=bstep hbt hbt.size hb9
     have HN1q:=Lib.hid ((hb9.block _ (blk_lt HN1t.out)).trans HN1t.out)
     have HN2q:=Lib.hid ((hb9.block _ (blk_lt HN2t.out)).trans HN2t.out)
     have HN3q:=Lib.hid ((hb9.block _ (blk_lt HN3t.out)).trans HN3t.out)
     have HXBq:=Lib.hid ((hb9.block _ (blk_lt HXBt.out)).trans HXBt.out)
     have HVq:=Lib.hid (Kd.R_below HVt.out hb9)
     clear HN1t HN2t HN3t HXBt HVt x0 hpn hbt hb9
     generalize Wt.drewN nq=Wq at *
     go_wp2_with fail
     have HBX:Hid (∀ W,Below Wq.heap.size Wq W→W.heap[w.heap.size+3]? = some (.cells #[.string t.name,.int .u8 t.kind,.string t.data,v] 25 (0,0))∧W.heap[bx]? = some (.cells (fc x A' c') 25 (0,0))∧W.heap[w.heap.size+1]? = some (.cells (fc f Af cf) 25 (0,0))):=Lib.hid fun W h =>
      ⟨(h.block _ (blk_lt HN3q.out)).trans HN3q.out,(h.block _ (blk_lt HXBq.out)).trans HXBq.out,(h.block _ (blk_lt HN1q.out)).trans HN1q.out⟩
     have hz1:=blk_lt HN1q.out
     have hz2:=blk_lt HN2q.out
     have hz3:=blk_lt HN3q.out
     have hzx:=blk_lt HXBq.out
     have HWI:=Lib.hid (HWTH.out Wq hbq)
     refine start_ (n:=12) (S:=fun w'=>w'.heap[w.heap.size+3]? = some (.cells #[.string t.name,.int .u8 t.kind,.string t.data,v] 25 (0,0))∧w'.heap[bx]? = some (.cells (fc x A' c') 25 (0,0))∧w'.heap[w.heap.size+1]? = some (.cells (fc f Af cf) 25 (0,0))) (ds:=[11]) (bw 12 0) (by kernel_rfl) rfl rfl (HBX.out _ (bdrew (Below.refl _ _))) (fun hHeld => ?_)
     refine pA 0 70 (bw 12 1) ?_
     refine pA 3 73 (bw 12 9) ?_
     refine pA 4 74 (bw 12 25) ?_
     refine pA 6 76 (bw 12 89) ?_
     refine tA 1 71 (bw 12 91) hHeld ?_ (hy:=by
      rintro w' ⟨s0,s1,s2⟩
      have q3:w'.cell? ⟨w.heap.size+2+1,3,none⟩=some v:=cell_of (j:=3) s0 rfl
      go_simp
      with_reducible rfl)
     refine tA 2 72 (bw 12 95) hHeld ?_ (hy:=by
      rintro w' ⟨s0,s1,s2⟩
      have q0:=cell_of (j:=0) s1 rfl
      have q1:=cell_of (j:=1) s1 rfl
      have q2:=cell_of (j:=2) s1 rfl
      have q3:=cell_of (j:=3) s1 rfl
      go_simp
      with_reducible rfl)
     refine tA 5 75 (bw 12 127) hHeld ?_ (hy:=by
      rintro w' ⟨s0,s1,s2⟩
      have q0:=cell_of (j:=0) s2 rfl
      have q1:=cell_of (j:=1) s2 rfl
      have q2:=cell_of (j:=2) s2 rfl
      have q3:=cell_of (j:=3) s2 rfl
      go_simp
      with_reducible rfl)
     refine eA 7 77 (bw 12 255) (fun K hK => ?_)
     refine gA Tryz.func75 #[.agg (fc x A' c'),.slice (some (pad.add 1)) p2.length (cp - 1),.agg (fc f Af cf),.bool gone] ?_
     refine (HWI.out _ (bdrew (Below.refl _ _))).mono ?_
     rintro e w1 ⟨v1,rfl,ho1,hb1'⟩
     refine ⟨_,rfl,?_⟩
     have hs1:=hb1'.size
     have HB1:=Lib.hid (HBX.out _ hb1')
     have HV1:=Lib.hid (Kd.R_below HVq.out hb1')
     have HP1:=Lib.hid ho1
     obtain ⟨A1,c1,rfl,hc1,hC1⟩:=Kd.R_reads ho1
     clear ho1 hC1 hHeld
     refine hK.out _ _ HB1.out (fun hHeld => ?_)
     refine nA 77 ?_
     refine eA 8 78 (bw 12 511) (fun K hK => ?_)
     refine vA ?_
     refine hK.out _ _ (HBX.out _ (below_alloc hb1' (.cells #[.string x.name,.int .u8 x.kind,.string x.data,.slice A1 (withR gone f p2 x).files.length c1] 25))) (fun hHeld => ?_)
     refine nA 78 ?_
     refine eA 9 79 (bw 12 1023) (fun K hK => ?_)
     refine Kd.R_append_step FileK (w0:=w1) 0 (by rfl) (.tmp 71) (.tmp 78) 23 25 (.agg #[(.string ⟨#[]⟩),(.int .u8 0),(.string ⟨#[]⟩),(.slice none 0 0)]) 64 rfl Tryz.underlying23 info_file rfl (by decide) (by omega) v out (withR gone f p2 x) [.string x.name,.int .u8 x.kind,.string x.data,.slice A1 (withR gone f p2 x).files.length c1] (fun j=>okf j∨w.heap.size+4≤j) (fun j=>okf j∨Wq.heap.size≤j) rfl rfl ?aP ?aK ?aF ?aO ?aB ?aS ?aL ?_
     case aP=>exact (by have h:=file_mkM _ _ _ (withR gone f p2 x) HP1.out;rw [(withR_keep gone f p2 x).1,(withR_keep gone f p2 x).2.1,(withR_keep gone f p2 x).2.2] at h;exact h)
     case aK=>exact fun j hj=>⟨hj.imp id fun h=>by omega,fun e=>by
      have h1:=HVO.out j e.symm
      have h2:=Kd.R_lt HVq.out j e.symm
      rcases hj with h | h
      ·have:=HOKF.out j h
       omega
      ·omega⟩
     case aF=>exact fun j hj=>.inr (by omega)
     case aO=>exact HV1.out
     case aB=>exact Below.refl _ _
     case aS=>exact Nat.zero_le _
     case aL=>omega
     intro v2 w2 ho2 hb2 hg2 hat2
     have hs2:=hg2.size
     have HVO2:Hid (∀ j,v2.ownBlock=some j→w.heap.size+4≤j):=Lib.hid fun j hj=>by
      rcases hat2 with h | ⟨b,h,hle⟩
      ·exact HVO.out j (h ▸ hj)
      ·rw [h] at hj
       injection hj with hj
       omega
     have hne:∀ j,j<w.heap.size+4∨j=bx→some j≠v.ownBlock:=fun j hj e=>by
      have h1:=HVO.out j e.symm
      rcases hj with h | h
      ·omega
      ·exact HBV.out j e.symm h
     have HG3:=Lib.hid ((hg2.block (w.heap.size+3) (by omega) (hne _ (.inl (by omega)))).trans HB1.out.1)
     have HGX:=Lib.hid ((hg2.block bx (by omega) (hne _ (.inr rfl))).trans HB1.out.2.1)
     have HG1:=Lib.hid ((hg2.block (w.heap.size+1) (by omega) (hne _ (.inl (by omega)))).trans HB1.out.2.2)
     have HG2:=Lib.hid ((hg2.block (w.heap.size+2) (by omega) (hne _ (.inl (by omega)))).trans ((hb1'.block (w.heap.size+2) (by omega)).trans HN2q.out))
     have hbw2:Below w.heap.size w w2:=(bstep hbq hbq.size hb1').grown hg2 (Nat.le_trans hbq.size hb1'.size) (fun r e=>by have:=HVO.out r e;omega)
     have HO2:=Lib.hid ho2
     obtain ⟨A2,c2,rfl,hc2,hC2⟩:=Kd.R_reads ho2
     clear ho2 hC2 hHeld hne hat2
     generalize hol2:(out++[(withR gone f p2 x)]).length=ol2 at *
     clear hol2
     refine hK.out _ _ ⟨HG3.out,HGX.out,HG1.out⟩ (fun hHeld => ?_)
     refine nA 79 ?_
     refine pA 10 80 (bw 12 2047) ?_
     refine last_ (i:=11) (N:=none) (bw 12 4095) rfl rfl (by kernel_rfl) (by decide) (fun K hK => ?_)
     have hcs:w2.cell? ⟨w.heap.size+2+1,3,none⟩=some v:=cell_of HG3.out rfl
     have hfs:w2.frozen? ⟨w.heap.size+2+1,3,none⟩=false:=unfr HG3.out 3
     refine sA ?_
     refine hK.out _ _ ?_
     refine done_ (by kernel_rfl) ?_
     have HN3':=Lib.hid (blk_put (cs:=#[.string t.name,.int .u8 t.kind,.string t.data,v]) HG3.out 3 (.slice A2 ol2 c2) rfl)
     have HON:=Lib.hid (Kd.R_far (p:=⟨w.heap.size+3,3,none⟩) HO2.out (fun j hj=>by
      rcases hj with h | h
      ·have:=HOKF.out j h
       simp only
       omega
      ·simp only
       omega) (.slice A2 ol2 c2))
     go_wp2_with fail
     go_roundw
     case rel=>exact ⟨k+1,put,_,out++[withR gone f p2 x],by omega,rfl,by go_num,trivial,hbw2.setCell (p:=⟨w.heap.size+3,3,none⟩) (by simp only;omega) _,Lib.hid ((Below.heap_setCell _ _ _ _ (by simp only;omega)).trans HG1.out),Lib.hid ((Below.heap_setCell _ _ _ _ (by simp only;omega)).trans HG2.out),HN3',HON,HVO2,by simp only [List.length_append,List.length_cons,List.length_nil];omega,Lib.hid (by rw [HZ.out,HCH1.out hnm];simp)⟩
     case measure=>simp [RowKit.intOf];omega
  ·obtain rfl:k=t.files.length:=by omega
   have hz0:=HZ0.out
   rw [List.drop_length,withL] at hz0
   have HZ1:=Lib.hid hz0
   clear hlt HZ0 hz0 HI HPT
   have hpn:=HPN.out wr hb
   obtain ⟨Av,cv,hv,hcv,_⟩:=Kd.R_reads HV.out
   subst hv
   by_cases hp2:p2=[]
   ·have l1:lp=1:=by rw [HLP.out,hp2];rfl
    have HLS:Hid (p2.isEmpty=true):=Lib.hid (by rw [hp2];rfl)
    subst l1
    cases put
    ·cases gone
     ·have hZe:=HZ1.out
      rw [HLS.out] at hZe
      simp only [Bool.not_false,Bool.and_true,if_true] at hZe
      have HZE:=Lib.hid hZe
      clear HZ1 hZe
      have hz1:=blk_lt HN1.out
      have hz2:=blk_lt HN2.out
      have hz3:=blk_lt HN3.out
      have o3:wr.cell? ⟨w.heap.size+2+1,3,none⟩=some (.slice Av out.length cv):=cell_of HN3.out rfl
      have f0:wr.cell? ⟨w.heap.size+1,0,none⟩=some (.string f.name):=cell_of HN1.out rfl
      have f1:wr.cell? ⟨w.heap.size+1,1,none⟩=some (.int .u8 f.kind):=cell_of HN1.out rfl
      have f2:wr.cell? ⟨w.heap.size+1,2,none⟩=some (.string f.data):=cell_of HN1.out rfl
      have f3:wr.cell? ⟨w.heap.size+1,3,none⟩=some (.slice Af f.files.length cf):=cell_of HN1.out rfl
      go_wp2_with (at_builtin;refine Kd.R_append FileK (w0:=wr) 0 rfl (.tmp 94) (.tmp 96) 23 25 (.agg #[(.string ⟨#[]⟩),(.int .u8 0),(.string ⟨#[]⟩),(.slice none 0 0)]) 64 rfl Tryz.underlying23 info_file rfl (by decide) (by omega) (.slice Av out.length cv) out f [.string f.name,.int .u8 f.kind,.string f.data,.slice Af f.files.length cf] (fun j=>okf j∨w.heap.size+4≤j) okf rfl rfl ?aP ?aK ?aF ?aO ?aB ?aS ?aL ?_;(case aP=>exact file_mkM _ _ _ f (HFR.out wr hb));(case aK=>exact fun j hj=>⟨.inl hj,fun e=>by have h1:=HVO.out j e.symm;have:=HOKF.out j hj;omega⟩);(case aF=>exact fun j hj=>.inr (by omega));(case aO=>exact HV.out);(case aB=>exact Below.refl _ _);(case aS=>exact Nat.zero_le _);(case aL=>omega);intro v2 w2 ho2 hb2 hg2 hat2;have HVO2:Hid (∀ j,v2.ownBlock=some j→w.heap.size+4≤j):=Lib.hid (fun j hj=>hat2.elim (fun h=>HVO.out j (h ▸ hj)) (fun ⟨b,h,hle⟩=>by rw [h] at hj;injection hj with hj;omega));have hne:∀ j,j<w.heap.size+4→some j≠(Value.slice Av out.length cv).ownBlock:=(fun j hj e=>by have h1:=HVO.out j e.symm;omega);have HG3:=Lib.hid ((hg2.block (w.heap.size+3) (by omega) (hne _ (by omega))).trans HN3.out);have HG1:=Lib.hid ((hg2.block (w.heap.size+1) (by omega) (hne _ (by omega))).trans HN1.out);have HG2:=Lib.hid ((hg2.block (w.heap.size+2) (by omega) (hne _ (by omega))).trans HN2.out);have hbw2:Below w.heap.size w w2:=hb.grown hg2 hb.size (fun r e=>by have:=HVO.out r e;omega);have HO2:=Lib.hid ho2;have hcs:w2.cell? ⟨w.heap.size+2+1,3,none⟩=some (.slice Av out.length cv):=cell_of HG3.out rfl;have hfs:w2.frozen? ⟨w.heap.size+2+1,3,none⟩=false:=unfr HG3.out 3;obtain ⟨A2,c2,rfl,hc2,hC2⟩:=Kd.R_reads ho2;clear ho2 hC2 hne hat2 o3 f0 f1 f2 f3;(generalize hol2:(out++[f]).length=ol2 at *);clear hol2;have HN2e:=Lib.hid ((Below.heap_setCell w2 ⟨w.heap.size+3,3,none⟩ (.slice A2 ol2 c2) (w.heap.size+2) (by simp only;omega)).trans HG2.out);have HN3e:=Lib.hid (blk_put (cs:=#[.string t.name,.int .u8 t.kind,.string t.data,(.slice Av out.length cv)]) HG3.out 3 (.slice A2 ol2 c2) rfl);have hbe:=hbw2.setCell (p:=⟨w.heap.size+3,3,none⟩) (by simp only;omega) (.slice A2 ol2 c2);have e0:=cell_of (j:=0) HN3e.out rfl;have e1:=cell_of (j:=1) HN3e.out rfl;have e2:=cell_of (j:=2) HN3e.out rfl;have e3:=cell_of (j:=3) HN3e.out rfl;have d0:=cell_of (j:=0) HN2e.out rfl;have d1:=cell_of (j:=1) HN2e.out rfl;have d2:=cell_of (j:=2) HN2e.out rfl;have d3:=cell_of (j:=3) HN2e.out rfl;have u0:=unfr HN2e.out 0;have u1:=unfr HN2e.out 1;have u2:=unfr HN2e.out 2;have u3:=unfr HN2e.out 3)
      have HVe:=Lib.hid (Kd.R_far (p:=⟨w.heap.size+3,3,none⟩) HO2.out (fun j hj=>by
       rcases hj with h | h
       ·have:=HOKF.out j h
        simp only
        omega
       ·simp only
        omega) (.slice A2 ol2 c2))
      have HH:=Lib.hid (store4_box HN2e.out (.string t.name) (.int .u8 t.kind) (.string t.data) (.slice A2 ol2 c2))
      have HBL:=Lib.hid (store4_below hbe (Nat.le_add_right w.heap.size 2) (.string t.name) (.int .u8 t.kind) (.string t.data) (.slice A2 ol2 c2))
      have HRF:=Lib.hid (Kd.R_mono (Kd.R_step (w1:=(((((w2.setCell ⟨w.heap.size+3,3,none⟩ (.slice A2 ol2 c2)).setCell ⟨w.heap.size+2,0,none⟩ (.string t.name)).setCell ⟨w.heap.size+2,1,none⟩ (.int .u8 t.kind)).setCell ⟨w.heap.size+2,2,none⟩ (.string t.data)).setCell ⟨w.heap.size+2,3,none⟩ (.slice A2 ol2 c2))) HVe.out fun j hj _=>store4_other _ (by
       rcases hj with h | h
       ·have:=HOKF.out j h
        omega
       ·omega) _ _ _ _) (ok':=fun j=>okf j∨w.heap.size≤j) fun j hj=>hj.imp id fun h=>by omega)
      refine bodyPost_ret (results_cell_row rfl _ _ (w.heap.size+2) 25 #[.string t.name,.int .u8 t.kind,.string t.data,.slice A2 ol2 c2] (0,0) _ rfl HH.out Tryz.underlying25 rfl (by kernel_rfl)) rfl ?_
      exact ⟨_,rfl,(by rw [HZE.out];exact HRF.out),HBL.out⟩
     ·have hZe:=HZ1.out
      simp only [Bool.not_true,Bool.and_false,Bool.false_eq_true,if_false,List.append_nil] at hZe
      have HZE:=Lib.hid hZe
      clear HZ1 hZe
      obtain ⟨e0,e1,e2,e3⟩:=c4A HN3.out
      obtain ⟨d0,d1,d2,d3⟩:=c4A HN2.out
      have u0:=unfr HN2.out 0
      have u1:=unfr HN2.out 1
      have u2:=unfr HN2.out 2
      have u3:=unfr HN2.out 3
      have HH:=Lib.hid (store4_box HN2.out (.string t.name) (.int .u8 t.kind) (.string t.data) (.slice Av out.length cv))
      have HBL:=Lib.hid (store4_below hb (Nat.le_add_right w.heap.size 2) (.string t.name) (.int .u8 t.kind) (.string t.data) (.slice Av out.length cv))
      have HRF:=Lib.hid (Kd.R_mono (Kd.R_step (w1:=((((wr.setCell ⟨w.heap.size+2,0,none⟩ (.string t.name)).setCell ⟨w.heap.size+2,1,none⟩ (.int .u8 t.kind)).setCell ⟨w.heap.size+2,2,none⟩ (.string t.data)).setCell ⟨w.heap.size+2,3,none⟩ (.slice Av out.length cv))) HV.out fun j hj _=>store4_other _ (by
       rcases hj with h | h
       ·have:=HOKF.out j h
        omega
       ·omega) _ _ _ _) (ok':=fun j=>okf j∨w.heap.size≤j) fun j hj=>hj.imp id fun h=>by omega)
      go_wp2_with fail
      refine bodyPost_ret (results_cell_row rfl _ _ (w.heap.size+2) 25 #[.string t.name,.int .u8 t.kind,.string t.data,.slice Av out.length cv] (0,0) _ rfl HH.out Tryz.underlying25 rfl (by kernel_rfl)) rfl ?_
      exact ⟨_,rfl,(by rw [HZE.out];exact HRF.out),HBL.out⟩
    ·have hZe:=HZ1.out
     simp only [Bool.not_true,Bool.and_false,Bool.false_and,Bool.false_eq_true,if_false,List.append_nil] at hZe
     have HZE:=Lib.hid hZe
     clear HZ1 hZe
     obtain ⟨e0,e1,e2,e3⟩:=c4A HN3.out
     obtain ⟨d0,d1,d2,d3⟩:=c4A HN2.out
     have u0:=unfr HN2.out 0
     have u1:=unfr HN2.out 1
     have u2:=unfr HN2.out 2
     have u3:=unfr HN2.out 3
     have HH:=Lib.hid (store4_box HN2.out (.string t.name) (.int .u8 t.kind) (.string t.data) (.slice Av out.length cv))
     have HBL:=Lib.hid (store4_below hb (Nat.le_add_right w.heap.size 2) (.string t.name) (.int .u8 t.kind) (.string t.data) (.slice Av out.length cv))
     have HRF:=Lib.hid (Kd.R_mono (Kd.R_step (w1:=((((wr.setCell ⟨w.heap.size+2,0,none⟩ (.string t.name)).setCell ⟨w.heap.size+2,1,none⟩ (.int .u8 t.kind)).setCell ⟨w.heap.size+2,2,none⟩ (.string t.data)).setCell ⟨w.heap.size+2,3,none⟩ (.slice Av out.length cv))) HV.out fun j hj _=>store4_other _ (by
      rcases hj with h | h
      ·have:=HOKF.out j h
       omega
      ·omega) _ _ _ _) (ok':=fun j=>okf j∨w.heap.size≤j) fun j hj=>hj.imp id fun h=>by omega)
     go_wp2_with fail
     refine bodyPost_ret (results_cell_row rfl _ _ (w.heap.size+2) 25 #[.string t.name,.int .u8 t.kind,.string t.data,.slice Av out.length cv] (0,0) _ rfl HH.out Tryz.underlying25 rfl (by kernel_rfl)) rfl ?_
     exact ⟨_,rfl,(by rw [HZE.out];exact HRF.out),HBL.out⟩
   ·have hp3:=List.length_pos_iff.2 hp2
    have l1:((lp:Int) == 1)=false:=by have:=HLP.out;rw [beq_eq_false_iff_ne];omega
    have hZe:=HZ1.out
    rw [show p2.isEmpty=false by cases p2 with | nil=>exact absurd rfl hp2 | cons a b=>rfl] at hZe
    simp only [Bool.false_and,Bool.false_eq_true,if_false,List.append_nil] at hZe
    have HZE:=Lib.hid hZe
    clear HZ1 hZe
    obtain ⟨e0,e1,e2,e3⟩:=c4A HN3.out
    obtain ⟨d0,d1,d2,d3⟩:=c4A HN2.out
    have u0:=unfr HN2.out 0
    have u1:=unfr HN2.out 1
    have u2:=unfr HN2.out 2
    have u3:=unfr HN2.out 3
    have HH:=Lib.hid (store4_box HN2.out (.string t.name) (.int .u8 t.kind) (.string t.data) (.slice Av out.length cv))
    have HBL:=Lib.hid (store4_below hb (Nat.le_add_right w.heap.size 2) (.string t.name) (.int .u8 t.kind) (.string t.data) (.slice Av out.length cv))
    have HRF:=Lib.hid (Kd.R_mono (Kd.R_step (w1:=((((wr.setCell ⟨w.heap.size+2,0,none⟩ (.string t.name)).setCell ⟨w.heap.size+2,1,none⟩ (.int .u8 t.kind)).setCell ⟨w.heap.size+2,2,none⟩ (.string t.data)).setCell ⟨w.heap.size+2,3,none⟩ (.slice Av out.length cv))) HV.out fun j hj _=>store4_other _ (by
     rcases hj with h | h
     ·have:=HOKF.out j h
      omega
     ·omega) _ _ _ _) (ok':=fun j=>okf j∨w.heap.size≤j) fun j hj=>hj.imp id fun h=>by omega)
    go_wp2_with fail
    refine bodyPost_ret (results_cell_row rfl _ _ (w.heap.size+2) 25 #[.string t.name,.int .u8 t.kind,.string t.data,.slice Av out.length cv] (0,0) _ rfl HH.out Tryz.underlying25 rfl (by kernel_rfl)) rfl ?_
    exact ⟨_,rfl,(by rw [HZE.out];exact HRF.out),HBL.out⟩
end Go.Proofs.YthlcjjhfkldmhaaGreatDoor.G
end
