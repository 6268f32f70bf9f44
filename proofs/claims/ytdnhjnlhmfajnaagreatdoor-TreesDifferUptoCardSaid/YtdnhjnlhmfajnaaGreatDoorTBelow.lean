import Derived.Test.YtdnhjnlhmfajnaaGreatDoorTCopy
import Derived.Lib.IndexLaws
set_option linter.unusedVariables false
set_option linter.unusedSimpArgs false
section
namespace Go.Proofs.YtdnhjnlhmfajnaaGreatDoor.G
open Go.RowKit Go.Lib Go.Proofs.YtdnhjnlhmfajnaaGreatDoorW.PrintWords Go.Proofs.YtdnhjnlhmfajnaaGreatDoorW.PrintLast
set_option linter.unusedVariables false
theorem name_calls (s:ByteArray) (w:World):Calls Tryz.prog 91 #[.string s] w fun e w'=>e=.returned (.bool (nameB s.data.toList))∧Below w.heap.size w w':=paths_Name.calls s _ w rfl
def zeroB (b:UInt8):Bool:=b == 0
def targetB (s:ByteArray):Bool:=decide (1≤s.size) && decide (s.size≤1024) && !(s.data.toList.any zeroB)
theorem index_zero (l:List UInt8):decide (Lib.indexByte l 0<0) = !(l.any zeroB):=by
 have hge:=Lib.indexByte_ge l 0
 by_cases h:l.any zeroB=true
 ·rw [h]
  obtain ⟨x,hx,h0⟩:=List.any_eq_true.1 h
  have h0:x=0:=by simpa [zeroB] using h0
  subst h0
  obtain ⟨k,hk⟩:=List.mem_iff_getElem?.1 hx
  have:¬ Lib.indexByte l 0<0:=fun hlt=>Lib.indexByte_none (show Lib.indexByte l 0 = -1 by omega) k hk
  simp [this]
 ·have h':l.any zeroB=false:=by simpa using h
  rw [h']
  have:Lib.indexByte l 0<0:=by
   apply Classical.byContradiction
   intro hn
   obtain ⟨o,ho⟩:∃ o:Nat,Lib.indexByte l 0=o:=⟨(Lib.indexByte l 0).toNat,by omega⟩
   exact h (List.any_eq_true.2 ⟨0,List.mem_iff_getElem?.2 ⟨o,(Lib.indexByte_some ho).1⟩,rfl⟩)
  simp [this]
set_option maxHeartbeats 4000000 in
theorem target_calls (s:ByteArray) (w:World):Calls Tryz.prog 52 #[.string s] w fun e w'=>e=.returned (.bool (targetB s))∧w'=w:=by
 have HI:=Lib.hid (fun W=>index_byte s 0 W)
 have hz:=index_zero s.data.toList
 change decide (Lib.indexByte s.data.toList (0:Int).toNat.toUInt8<0)=_ at hz
 unfold targetB
 rw [← hz]
 clear hz
 generalize Lib.indexByte s.data.toList (0:Int).toNat.toUInt8=r at *
 by_cases h1:1≤s.size
 ·by_cases h2:s.size≤1024
  ·have g1:decide ((s.size:Int) ≥ 1)=true:=decide_eq_true (by omega)
   have g2:decide ((s.size:Int)≤1024)=true:=decide_eq_true (by omega)
   have g3:(1:Int)≤(s.size:Int):=by omega
   have g4:(s.size:Int)≤1024:=by omega
   rw [decide_eq_true h1,decide_eq_true h2]
   clear h1 h2
   go_enter Tryz.func52,Tryz.ntmps52
   go_wp2_with fail
   refine (HI.out _).mono ?_
   rintro e w1 ⟨rfl,rfl⟩
   go_wp2_with fail
   go_ret
   exact ⟨by first | rfl | simp,rfl⟩
  ·have g1:decide ((s.size:Int) ≥ 1)=true:=decide_eq_true (by omega)
   have g2:decide ((s.size:Int)≤1024)=false:=decide_eq_false (by omega)
   have g3:(1:Int)≤(s.size:Int):=by omega
   have g4:¬ (s.size:Int)≤1024:=by omega
   rw [decide_eq_false h2,Bool.and_false,Bool.false_and]
   clear h1 h2 HI
   go_enter Tryz.func52,Tryz.ntmps52
   go_wp2_with fail
   go_ret
   exact ⟨rfl,rfl⟩
 ·have g1:decide ((s.size:Int) ≥ 1)=false:=decide_eq_false (by omega)
  have g3:¬ (1:Int)≤(s.size:Int):=by omega
  rw [decide_eq_false h1,Bool.false_and,Bool.false_and]
  clear h1 HI
  go_enter Tryz.func52,Tryz.ntmps52
  go_wp2_with fail
  go_ret
  exact ⟨rfl,rfl⟩
def aloneB (f:File):Bool:=if f.kind=1 then f.data.toList.isEmpty else if f.kind=2 then decide (f.files.length=0) else if f.kind=3 then decide (f.files.length=0) && targetB f.data else false
set_option maxHeartbeats 4000000 in
theorem alone_calls (f:File) (A:Option Addr) (c:Nat) (w:World):Calls Tryz.prog 126 #[fileV f A c] w fun e w'=>e=.returned (.bool (aloneB f))∧Below w.heap.size w w':=by
 have HI:=Lib.hid (fun W=>target_calls f.data W)
 have hB:Below w.heap.size w (w.alloc (.cells (fc f A c) 25)):=(Below.refl _ _).alloc (Nat.le_refl _) _
 obtain ⟨fn,fk,fd,fl⟩:=f
 have HB:=Lib.hid hB
 clear hB
 unfold aloneB fileV
 change Hid (∀ W,Calls Tryz.prog 52 #[.string fd] W fun e w'=>e=.returned (.bool (targetB fd))∧w'=W) at HI
 show Calls _ _ _ _ fun e w'=>e=.returned (.bool (if fk=1 then fd.toList.isEmpty else if fk=2 then decide (fl.length=0) else if fk=3 then decide (fl.length=0) && targetB fd else false))∧_
 generalize targetB fd=tb at *
 have hl:decide (fl.length=0)=((fl.length:Int) == 0):=by rw [Bool.eq_iff_iff,decide_eq_true_iff,beq_iff_eq];omega
 rw [hl]
 have hbz:Hid (Below w.heap.size w (w.alloc (.cells #[.string fn,.int .u8 fk,.string fd,.slice A fl.length c] 25))):=HB
 clear hl HB
 by_cases h1:fk=1
 ·subst h1
  rw [if_pos rfl]
  go_enter Tryz.func126,Tryz.ntmps126
  go_wp2_with fail
  go_ret
  exact ⟨rfl,hbz.out⟩
 ·have k1:(fk == 1)=false:=beq_eq_false_iff_ne.2 h1
  rw [if_neg h1]
  by_cases h2:fk=2
  ·subst h2
   rw [if_pos rfl]
   clear k1 h1
   go_enter Tryz.func126,Tryz.ntmps126
   go_wp2_with fail
   go_ret
   exact ⟨rfl,hbz.out⟩
  ·have k2:(fk == 2)=false:=beq_eq_false_iff_ne.2 h2
   rw [if_neg h2]
   by_cases h3:fk=3
   ·subst h3
    rw [if_pos rfl]
    clear k1 k2 h1 h2
    cases hz:((fl.length:Int) == 0)
    ·go_enter Tryz.func126,Tryz.ntmps126
     go_wp2_with fail
     go_ret
     exact ⟨rfl,hbz.out⟩
    ·go_enter Tryz.func126,Tryz.ntmps126
     go_wp2_with fail
     refine (HI.out _).mono ?_
     rintro e w1 ⟨rfl,rfl⟩
     go_wp2_with fail
     go_ret
     exact ⟨rfl,hbz.out⟩
   ·have k3:(fk == 3)=false:=beq_eq_false_iff_ne.2 h3
    rw [if_neg h3]
    clear h1 h2 h3
    go_enter Tryz.func126,Tryz.ntmps126
    go_wp2_with fail
    go_ret
    exact ⟨rfl,hbz.out⟩
end Go.Proofs.YtdnhjnlhmfajnaaGreatDoor.G
end
section
namespace Go.Proofs.YtdnhjnlhmfajnaaGreatDoor.G
open Go.RowKit Go.Lib Go.Proofs.YtdnhjnlhmfajnaaGreatDoorW.PrintWords Go.Proofs.YtdnhjnlhmfajnaaGreatDoorW.PrintLast
set_option linter.unusedVariables false
set_option maxHeartbeats 4000000 in
theorem below_calls (A:Option Addr) (c:Nat) (p:List ByteArray) (name:ByteArray) (w:World) (hr:Kd.C Kd.string w A p.length p) (hc:p.length≤c) (hl:p.length≤4398046511104) :
  Calls Tryz.prog 79 #[.slice A p.length c,.string name] w fun e w'=>∃ v,e=.returned v∧Kd.R Kd.string 9 w' w.heap.size (fun _=>True) v (p++[name])∧Below w.heap.size w w':=by
 have HC:=Lib.hid (clone_calls A c p w hr hc (by omega))
 clear hr
 go_enter Tryz.func79,Tryz.ntmps79
 go_wp2_with fail
 refine HC.out.mono ?_
 rintro e w1 ⟨v1,rfl,ho,hb⟩
 have hsz:=hb.size
 have HO:=Lib.hid ho
 obtain ⟨A1,c1,rfl,hc1,hC1⟩:=Kd.R_reads ho
 clear ho hC1 HC
 go_wp2_with (at_builtin;refine Kd.R_append Kd.string (w0:=w) w.heap.size rfl (.tmp 6) (.tmp 8) 37 9 (.string ⟨#[]⟩) 16 rfl Tryz.underlying37 info_str rfl (by decide) (by decide) _ p name [.string name] (fun _=>True) (fun _=>False) rfl rfl ?aP ?aK ?aF ?aO ?aB ?aS ?aL ?_;(case aP=>exact rfl);(case aK=>exact fun j hj=>hj.elim);(case aF=>exact fun _ _=>trivial);(case aO=>exact HO.out);(case aB=>exact hb);(case aS=>exact hsz);(case aL=>omega);intro v2 w2 ho2 hb2 hg2 hat2)
 go_ret
 exact ⟨_,rfl,ho2,hb2⟩
end Go.Proofs.YtdnhjnlhmfajnaaGreatDoor.G
end
