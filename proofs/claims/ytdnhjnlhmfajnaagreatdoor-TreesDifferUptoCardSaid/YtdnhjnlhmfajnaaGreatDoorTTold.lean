import Derived.Test.YtdnhjnlhmfajnaaGreatDoorTQuote
import Derived.Laws.IdiomStrings
set_option linter.unusedVariables false
set_option linter.unusedSimpArgs false
namespace Go.Proofs.YtdnhjnlhmfajnaaGreatDoor.G
open Go.RowKit Go.Lib Go.Proofs.YtdnhjnlhmfajnaaGreatDoorW.PrintWords Go.Proofs.YtdnhjnlhmfajnaaGreatDoorW.PrintLast
set_option linter.unusedVariables false
def shortL:List UInt8:=[0,0,0,0,0,0,0,97,98,116,110,118,102,114]
def Tab (w:World):Prop:=∀ i,i<14→w.cell? ⟨0,i,none⟩=some (.int .u8 (shortL.getD i 0).toNat)
def o1 (x:UInt8):UInt8:=(48:UInt8)+(x >>> 6)
def o2 (x:UInt8):UInt8:=(48:UInt8)+((x >>> 3) &&& 7)
def o3 (x:UInt8):UInt8:=(48:UInt8)+(x &&& 7)
def toldB (c:UInt8):List UInt8:=if c=92 then [92,92] else if shortL.getD c.toNat 0≠0 then [92,shortL.getD c.toNat 0] else if c<32∨127≤c then [92,o1 c,o2 c,o3 c] else [c]
set_option maxRecDepth 100000 in
theorem oct1 (x:UInt8):((o1 x).toNat:Int)=48+(x.toNat:Int) / 64:=by
 have h:∀ n:Nat,n<256→(o1 (UInt8.ofNat n)).toNat=48+n / 64:=by decide
 have:=h x.toNat x.toNat_lt
 rw [UInt8.ofNat_toNat] at this
 omega
set_option maxRecDepth 100000 in
theorem oct2 (x:UInt8):((o2 x).toNat:Int)=48+(x.toNat:Int) / 8 % 8:=by
 have h:∀ n:Nat,n<256→(o2 (UInt8.ofNat n)).toNat=48+n / 8 % 8:=by decide
 have:=h x.toNat x.toNat_lt
 rw [UInt8.ofNat_toNat] at this
 omega
set_option maxRecDepth 100000 in
theorem oct3 (x:UInt8):((o3 x).toNat:Int)=48+(x.toNat:Int) % 8:=by
 have h:∀ n:Nat,n<256→(o3 (UInt8.ofNat n)).toNat=48+n % 8:=by decide
 have:=h x.toNat x.toNat_lt
 rw [UInt8.ofNat_toNat] at this
 omega
theorem toldB_len (x:UInt8):(toldB x).length≤4:=by
 unfold toldB
 split
 ·decide
 ·split
  ·simp
  ·split <;> simp
theorem conv_new (w:World) (l:List UInt8) (n cap:Nat) (hn:l.length=n) :
  (convert 64 9 (.slice (some ⟨w.heap.size,0,none⟩) n cap)).run Tryz.prog (w.alloc (.cells (l.map fun b=>Value.int .u8 b.toNat).toArray 5))=.ok (.string ⟨l.toArray⟩) (w.alloc (.cells (l.map fun b=>Value.int .u8 b.toNat).toArray 5)):=by
 subst hn
 refine run_convert_bytes_back _ _ _ 5 _ _ l Tryz.underlying64 Tryz.underlying5 Tryz.underlying9 (fun j hj => ?_)
 rw [show (⟨w.heap.size,0,none⟩:Addr).add j=⟨w.heap.size,j,none⟩ by simp [Addr.add];omega]
 exact cell_of (blk_new w _) (by simp [hj])
set_option maxHeartbeats 4000000 in
set_option maxRecDepth 100000 in
theorem told_calls (x:UInt8) (w:World) (hG:Tab w) :
  Calls Tryz.prog 81 #[.int .u8 x.toNat] w fun e w'=>e=.returned (.string ⟨(toldB x).toArray⟩)∧Below w.heap.size w w':=by
 have HG:=Lib.hid hG
 have hlt:=x.toNat_lt
 clear hG
 have E4:=conv_new w [92,o1 x,o2 x,o3 x] 4 4 rfl
 have E1:=conv_new w [x] 1 1 rfl
 simp only [List.map_cons,List.map_nil,oct1,oct2,oct3,show ((92:UInt8).toNat:Int)=92 from rfl] at E4 E1
 have H4:=Lib.hid E4
 have H1:=Lib.hid E1
 clear E4 E1
 have HT:Hid (toldB x=if x=92 then [92,92] else if shortL.getD x.toNat 0≠0 then [92,shortL.getD x.toNat 0] else if x<32∨127≤x then [92,o1 x,o2 x,o3 x] else [x]):=Lib.hid rfl
 generalize toldB x=tl at *
 go_enter Tryz.func81,Tryz.ntmps81
 by_cases h1:x=92
 ·subst h1
  have ht:=HT.out
  rw [if_pos rfl] at ht
  subst ht
  go_wp2_with fail
  go_ret
  exact ⟨rfl,Below.refl _ _⟩
 ·have k1:((x.toNat:Int) == 92)=false:=by
   rw [beq_eq_false_iff_ne];intro h;exact h1 (UInt8.toNat_inj.1 (by exact_mod_cast h))
  have ht:=HT.out
  rw [if_neg h1] at ht
  clear HT
  have HB:=fun o=>below_alloc (Below.refl w.heap.size w) o
  by_cases h2:x.toNat<14
  ·have c1:=HG.out x.toNat h2
   by_cases h3:shortL.getD x.toNat 0=0
   ·rw [if_neg (by simpa using h3)] at ht
    have hx:x<32:=by rw [UInt8.lt_iff_toNat_lt];show x.toNat<32;omega
    rw [if_pos (.inl hx)] at ht
    subst ht
    rw [h3] at c1
    have g1:(x.toNat:Int)<14:=by omega
    have g2:(x.toNat:Int)<32:=by omega
    clear h3 hx h1
    go_wp2_with fail
    rw [H4.out]
    simp only [Result.andThen]
    rw [Oper.upon_value]
    go_wp2_with fail
    go_ret
    exact ⟨rfl,HB _⟩
   ·rw [if_pos h3] at ht
    generalize shortL.getD x.toNat 0=y at *
    subst ht
    have g1:(x.toNat:Int)<14:=by omega
    have ky:((y.toNat:Int) != 0)=true:=by
     rw [bne_iff_ne];intro h;exact h3 (UInt8.toNat_inj.1 (by exact_mod_cast h))
    have E2:=conv_new w [92,y] 2 2 rfl
    simp only [List.map_cons,List.map_nil,show ((92:UInt8).toNat:Int)=92 from rfl] at E2
    have H2:=Lib.hid E2
    clear E2 h3 h1
    go_wp2_with fail
    rw [H2.out]
    simp only [Result.andThen]
    rw [Oper.upon_value]
    go_wp2_with fail
    go_ret
    exact ⟨rfl,HB _⟩
  ·have h3:shortL.getD x.toNat 0=0:=by
    rw [List.getD,List.getElem?_eq_none (by simp [shortL];omega)];rfl
   rw [if_neg (by simpa using h3)] at ht
   have g1:¬ ((x.toNat:Int)<14):=by omega
   clear h3 h1
   by_cases h4:x<32∨127≤x
   ·rw [if_pos h4] at ht
    subst ht
    rw [UInt8.lt_iff_toNat_lt,UInt8.le_iff_toNat_le] at h4
    have h4':x.toNat<32∨127≤x.toNat:=h4
    clear h4
    by_cases h5:x.toNat<32
    ·have g2:(x.toNat:Int)<32:=by omega
     go_wp2_with fail
     rw [H4.out]
     simp only [Result.andThen]
     rw [Oper.upon_value]
     go_wp2_with fail
     go_ret
     exact ⟨rfl,HB _⟩
    ·have g2:¬ (x.toNat:Int)<32:=by omega
     have g3:(127:Int)≤(x.toNat:Int):=by omega
     go_wp2_with fail
     rw [H4.out]
     simp only [Result.andThen]
     rw [Oper.upon_value]
     go_wp2_with fail
     go_ret
     exact ⟨rfl,HB _⟩
   ·rw [if_neg h4] at ht
    subst ht
    rw [UInt8.lt_iff_toNat_lt,UInt8.le_iff_toNat_le] at h4
    have h4':¬ (x.toNat<32∨127≤x.toNat):=h4
    clear h4
    have g2:¬ (x.toNat:Int)<32:=by omega
    have g3:¬ (127:Int)≤(x.toNat:Int):=by omega
    go_wp2_with fail
    rw [H1.out]
    simp only [Result.andThen]
    rw [Oper.upon_value]
    go_wp2_with fail
    go_ret
    exact ⟨rfl,HB _⟩
end Go.Proofs.YtdnhjnlhmfajnaaGreatDoor.G
