import Derived.Test.YtdnhjnlhmfajnaaGreatDoorTFile
import Derived.Deep.RegionWith
set_option linter.unusedVariables false
set_option linter.unusedSimpArgs false
namespace Go.Proofs.YtdnhjnlhmfajnaaGreatDoor.G
open Go.RowKit Go.Lib Go.Proofs.YtdnhjnlhmfajnaaGreatDoorW.PrintWords Go.Proofs.YtdnhjnlhmfajnaaGreatDoorW.PrintLast
set_option linter.unusedVariables false
open Classical in
noncomputable def sameT (a b:File):Bool:=decide (a=b)
theorem sameT_self (a:File):sameT a a=true:=by simp [sameT]
theorem sameT_ne {a b:File} (h:a≠b):sameT a b=false:=by simp [sameT,h]
theorem sameT_eq {a b:File} (h:sameT a b=true):a=b:=by simpa [sameT] using h
theorem two_boxes (w:World) (cs ds:Array Value) (t u:TypeId):((w.alloc (.cells cs t)).alloc (.cells ds u)).heap[w.heap.size]? = some (.cells cs t (0,0))∧((w.alloc (.cells cs t)).alloc (.cells ds u)).heap[w.heap.size+1]? = some (.cells ds u (0,0)):=by
 refine ⟨(Below.heap_alloc _ _ _ (by simp)).trans (blk_new w _),?_⟩
 have h:=blk_new (w.alloc (.cells cs t)) (.cells ds u)
 rwa [show (w.alloc (.cells cs t)).heap.size=w.heap.size+1 by simp] at h
theorem cell_of {W:World} {g j:Nat} {cs:Array Value} {t:TypeId} {v:Value} (h:W.heap[g]? = some (.cells cs t (0,0))) (hv:cs[j]? = some v):W.cell? ⟨g,j,none⟩=some v:=by simp [World.cell?,h,hv]
def fileV (a:File) (A:Option Addr) (c:Nat):Value:=.agg (fc a A c)
set_option maxHeartbeats 8000000 in
set_option maxRecDepth 100000 in
theorem rsame_file:∀ (n:Nat) (a b:File) (A:Option Addr) (c:Nat) (B:Option Addr) (d:Nat) (w:World),a.bulk≤n→a.bulk≤1099511627776→FileK.C w A a.files.length a.files→a.files.length≤c→FileK.C w B b.files.length b.files→b.files.length≤d →
  Calls Tryz.prog 14 #[fileV a A c,fileV b B d] w fun e w'=>e=.returned (.bool (sameT a b))∧Below w.heap.size w w':=by
 intro n
 induction n with
 | zero=>intro a b A c B d w h;have:=bulk_eq a;omega
 | succ n ih =>
 intro a b A c B d w hn hbk hr hc hs hd
 have HI:=Lib.hid (fun (x y:File) A c B d W h1 h2=>ih x y A c B d W h1 h2)
 clear ih
 have hlen:=bulkL_len a.files
 have hbe:=bulk_eq a
 have HR:=Lib.hid hr
 have HS:=Lib.hid hs
 clear hr hs
 have HCH:=Lib.hid (fun x (h:x∈a.files)=>bulk_child (f:=a) h)
 have HN':∀ x∈a.files,x.bulk≤n∧x.bulk≤1099511627776:=fun x hx=>by have:=HCH.out x hx;omega
 have hal':a.files.length≤1099511627776:=by omega
 obtain ⟨an,ak,ad,af⟩:=a
 obtain ⟨bn,bk,bd,bf⟩:=b
 change af.length≤c at hc
 change bf.length≤d at hd
 change Hid (FileK.C w A af.length af) at HR
 change Hid (FileK.C w B bf.length bf) at HS
 have hal:af.length≤1099511627776:=hal'
 have HN:Hid (∀ x∈af,x.bulk≤n∧x.bulk≤1099511627776):=Lib.hid HN'
 clear hbe hlen HCH hn hbk hal' HN'
 by_cases hne:an=bn∧ak=bk∧ad=bd∧af.length=bf.length
 ·obtain ⟨rfl,rfl,rfl,hl⟩:=hne
  have hz1:((af.length:Int) != (bf.length:Int))=false:=by simp [hl]
  have HL:=Lib.hid hl
  clear hl
  go_enter Tryz.func14,Tryz.ntmps14
  unfold fileV
  go_wp2_with fail
  go_loopw [37] (fun i wr=>∃ k:Nat,k≤af.length∧i=.int .i64 k∧Below w.heap.size w wr∧wr.cell? ⟨w.heap.size,3,none⟩=some (.slice A af.length c)∧wr.cell? ⟨w.heap.size+1,3,none⟩=some (.slice B bf.length d)∧w.heap.size+2≤wr.heap.size∧Hid (∀ j (h1:j<af.length) (h2:j<bf.length),j<k→af[j]=bf[j])) (fun i _=>af.length - (RowKit.intOf i).toNat)
  case atStart=>exact ⟨0,by omega,rfl,((Below.refl _ _).alloc (Nat.le_refl _) _).alloc (by simp) _,cell_of (two_boxes w _ _ _ _).1 rfl,cell_of (two_boxes w _ _ _ _).2 rfl,by simp,Lib.hid (fun j _ _ h=>by omega)⟩
  case round =>
   obtain ⟨k,hk,rfl,hb,hx1,hx2,hsz,HE⟩:=hrel
   by_cases hlt:k<af.length
   ·have hlt2:k<bf.length:=by have:=HL.out;omega
    obtain ⟨aad,A',c',rfl,p1,p2,p3,p4,hc',hC'⟩:=file_at HR.out k hlt
    obtain ⟨bad,B',d',rfl,q1,q2,q3,q4,hd',hD'⟩:=file_at HS.out k hlt2
    have mv:∀ {p:Addr} {v:Value},w.cell? p=some v→wr.cell? p=some v:=fun h=>(hb.cell (World.block_lt_of_cell? w _ h)).trans h
    have p1':=mv p1
    have p2':=mv p2
    have p3':=mv p3
    have p4':=mv p4
    have q1':=mv q1
    have q2':=mv q2
    have q3':=mv q3
    have q4':=mv q4
    have hmem:=HN.out _ (List.getElem_mem hlt)
    have HC:=Lib.hid (fun W (h:Below wr.heap.size wr W)=>(show Calls Tryz.prog 14 #[.agg #[.string af[k].name,.int .u8 af[k].kind,.string af[k].data,.slice A' af[k].files.length c'],.agg #[.string bf[k].name,.int .u8 bf[k].kind,.string bf[k].data,.slice B' bf[k].files.length d']] W _ from HI.out af[k] bf[k] A' c' B' d' W hmem.1 hmem.2 (Kd.C_below hC' (hb.trans (h.mono hb.size))) hc' (Kd.C_below hD' (hb.trans (h.mono hb.size))) hd').mono (R':=fun e w'=>e=.returned (.bool (sameT af[k] bf[k]))∧Below wr.heap.size wr w') fun e w' ⟨he,hb2⟩=>⟨he,h.trans (hb2.mono h.size)⟩)
    have HB:Hid (∀ r,sameT af[k] bf[k]=r→(r=true→∀ j (h1:j<af.length) (h2:j<bf.length),j<k+1→af[j]=bf[j])∧(r=false→af≠bf)):=Lib.hid (by
     intro r hr
     refine ⟨fun e j h1 h2 h3 => ?_,fun e he => ?_⟩
     ·by_cases hj:j<k
      ·exact HE.out j h1 h2 hj
      ·obtain rfl:j=k:=by omega
       subst e
       exact sameT_eq hr
     ·subst he
      rw [sameT_self] at hr
      subst hr
      cases e)
    clear p1 p2 p3 p4 q1 q2 q3 q4 mv hmem hC' hD' HE
    generalize sameT af[k] bf[k]=sb at *
    generalize af[k]=x at *
    generalize bf[k]=y at *
    have g1:(k:Int)<(af.length:Int):=by omega
    have g2:(k:Int)<(bf.length:Int):=by omega
    clear HI
    go_wp2_with fail
    go_region_with (go_at_call 14;refine (HC.out _ (bdrew (Below.refl _ _))).mono ?_;rintro e w1 ⟨rfl,hb1⟩)
    all_goals
     have hb2:=bstep hb hb.size hb1
     have hy1:=(hb1.cell (p:=⟨w.heap.size,3,none⟩) (by simp only;omega)).trans hx1
     have hy2:=(hb1.cell (p:=⟨w.heap.size+1,3,none⟩) (by simp only;omega)).trans hx2
     have hsz2:=hb1.size
     cases sb
     ·go_wp2_with fail
      go_ret
      exact ⟨by rw [sameT_ne (fun h=>(HB.out _ rfl).2 rfl (by injection h))];rfl,hb2⟩
     ·go_wp2_with fail
      go_roundw
      case rel=>exact ⟨k+1,by omega,by go_num,hb2,hy1,hy2,by omega,Lib.hid ((HB.out _ rfl).1 rfl)⟩
      case measure=>simp [RowKit.intOf];omega
   ·obtain rfl:k=af.length:=by omega
    have he:af=bf:=List.ext_getElem HL.out (fun j h1 h2=>HE.out j h1 h2 h1)
    clear hlt HE
    go_wp2_with fail
    go_ret
    exact ⟨by rw [he,sameT_self];rfl,hb⟩
 ·have hf:sameT ⟨an,ak,ad,af⟩ ⟨bn,bk,bd,bf⟩=false:=sameT_ne (fun h=>hne (by injection h with h1 h2 h3 h4;exact ⟨h1,h2,h3,by rw [h4]⟩))
  rw [hf]
  go_enter Tryz.func14,Tryz.ntmps14
  unfold fileV
  by_cases h1:an=bn
  ·subst h1
   by_cases h2:ak=bk
   ·subst h2
    by_cases h3:ad=bd
    ·subst h3
     have h4:¬ af.length=bf.length:=fun h=>hne ⟨rfl,rfl,rfl,h⟩
     have h5:((af.length:Int) != (bf.length:Int))=true:=by rw [bne_iff_ne];omega
     go_wp2_with fail
     go_ret
     exact ⟨rfl,((Below.refl _ _).alloc (Nat.le_refl _) _).alloc (by simp) _⟩
    ·have h5:(ad.toList == bd.toList)=false:=by rw [beq_eq_false_iff_ne];exact fun h=>h3 (toList_inj.1 h)
     go_wp2_with fail
     go_ret
     exact ⟨rfl,((Below.refl _ _).alloc (Nat.le_refl _) _).alloc (by simp) _⟩
   ·have h5:(ak != bk)=true:=by rw [bne_iff_ne];exact h2
    go_wp2_with fail
    go_ret
    exact ⟨rfl,((Below.refl _ _).alloc (Nat.le_refl _) _).alloc (by simp) _⟩
  ·have h5:(an.toList == bn.toList)=false:=by rw [beq_eq_false_iff_ne];exact fun h=>h1 (toList_inj.1 h)
   go_wp2_with fail
   go_ret
   exact ⟨rfl,((Below.refl _ _).alloc (Nat.le_refl _) _).alloc (by simp) _⟩
end Go.Proofs.YtdnhjnlhmfajnaaGreatDoor.G
