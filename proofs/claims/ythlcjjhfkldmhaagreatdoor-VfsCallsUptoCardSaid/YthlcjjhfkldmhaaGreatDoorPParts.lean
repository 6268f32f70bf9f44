import Derived.Test.YthlcjjhfkldmhaaGreatDoorPNormal
import Derived.Test.YthlcjjhfkldmhaaGreatDoorPRef2
set_option linter.unusedVariables false
set_option linter.unusedSimpArgs false
namespace Go.Proofs.YthlcjjhfkldmhaaGreatDoor.P
section
open Go.RowKit Go.Lib Go.Proofs.YthlcjjhfkldmhaaGreatDoorW.PrintWords Go.Proofs.YthlcjjhfkldmhaaGreatDoorW.PrintLast Go.Proofs.YthlcjjhfkldmhaaGreatDoor.G
set_option linter.unusedVariables false
set_option linter.unusedSimpArgs false
def partsFrom (s:ByteArray) (f:Nat):List ByteArray:=(splitB (s.data.toList.drop f)).map fun l=>⟨l.toArray⟩
theorem partsFrom_zero (s:ByteArray):partsFrom s 0=partsL s:=by rw [partsFrom,List.drop_zero];rfl
theorem mk_of_data' {S:ByteArray} {l:List UInt8} (h:S.data.toList=l):S=⟨l.toArray⟩:=by
 subst h
 apply ByteArray.ext
 simp
theorem extract_mk (s:ByteArray) (f k:Nat):s.extract f k=⟨((s.data.toList.drop f).take (k - f)).toArray⟩:=by
 apply mk_of_data'
 rw [ByteArray.data_extract,Array.toList_extract]
theorem get_data (s:ByteArray) (k:Nat) (h:k<s.size):s.data.toList[k]? = some s[k]:=by
 rw [List.getElem?_eq_getElem (by rw [← Lib.size_eq];exact h)]
 rfl
theorem partsFrom_some {s:ByteArray} {f k:Nat} (hfk:f≤k) (hk:k<s.size) (h:s[k]=47) (hn:∀ j,f≤j→j<k→s.data.toList[j]? ≠ some 47) :
  partsFrom s f=s.extract f k :: partsFrom s (k+1):=by
 have h1:(s.data.toList.drop f)[k - f]? = some 47:=by
  rw [List.getElem?_drop,show f+(k - f)=k by omega,get_data s k hk,h]
 have h2:=splitB_some h1 (fun j hj=>by
  rw [List.getElem?_drop]
  exact hn (f+j) (by omega) (by omega))
 rw [partsFrom,h2,List.map_cons,← extract_mk,List.drop_drop,show f+(k - f+1)=k+1 by omega,partsFrom]
theorem partsFrom_none {s:ByteArray} {f:Nat} (hf:f≤s.size) (hn:∀ j,f≤j→j<s.size→s.data.toList[j]? ≠ some 47):partsFrom s f=[s.extract f s.size]:=by
 have h2:=splitB_none (l:=s.data.toList.drop f) (fun j=>by
  rw [List.getElem?_drop]
  by_cases hj:f+j<s.size
  ·exact hn _ (by omega) hj
  ·rw [List.getElem?_eq_none (by rw [← Lib.size_eq];omega)]
   simp)
 rw [partsFrom,h2,extract_mk,List.take_of_length_le (by rw [List.length_drop,← Lib.size_eq];omega)]
 rfl
set_option maxHeartbeats 4000000 in
set_option maxRecDepth 100000 in
theorem rparts_calls (s:ByteArray) (w:World) (hs:s.size≤1099511627776) :
  Calls Tryz.prog 101 #[.string s] w fun e w'=>∃ v,e=.returned v∧Kd.R Kd.string 9 w' w.heap.size (fun _=>True) v (partsL s)∧Below w.heap.size w w':=by
 go_enter Tryz.func101,Tryz.ntmps101
 go_wp2
 go_loopw [3,4,5] (fun v f i wr=>∃ (k n:Nat) (outs:List ByteArray),n≤k∧k≤s.size∧outs.length≤k∧f=.int .i64 n∧i=.int .i64 k∧Hid (Kd.R Kd.string 9 wr w.heap.size (fun _=>True) v outs)∧Hid (partsL s=outs++partsFrom s n)∧Hid (∀ j,n≤j→j<k→s.data.toList[j]? ≠ some 47)∧Below w.heap.size w wr) (fun _ _ i _=>s.size - (RowKit.intOf i).toNat)
 case atStart=>exact ⟨0,0,[],by omega,by omega,by simp,rfl,rfl,Lib.hid (Kd.R_nil _ _ _ _ _),Lib.hid (by rw [partsFrom_zero];rfl),Lib.hid (fun j h1 h2=>by omega),Below.refl _ _⟩
 case round =>
  obtain ⟨k,n,outs,hnk,hk,hlo,rfl,rfl,HO,HP,HN,hb⟩:=hrel
  have hsz:=hb.size
  by_cases hlt:k<s.size
  ·obtain ⟨b,hbb⟩:∃ b,s[k]'hlt=b:=⟨_,rfl⟩
   have hg:=get_data s k hlt
   rw [hbb] at hg
   cases h47:(b == 47)
   ·have hne:b≠47:=by intro h;rw [h] at h47;cases h47
    have he:((b.toNat:Int) == 47)=false:=beq_eq_false_iff_ne.2 (by
     intro h;exact hne (UInt8.toNat_inj.1 (by exact_mod_cast h)))
    have HN2:Hid (∀ j,n≤j→j<k+1→s.data.toList[j]? ≠ some 47):=Lib.hid (fun j h1 h2=>by
     rcases Nat.lt_or_ge j k with h3 | h3
     ·exact HN.out j h1 h3
     ·obtain rfl:j=k:=by omega
      rw [hg]
      intro e
      injection e with e
      exact hne e)
    clear h47 hne hg
    go_wp2
    go_roundw
    case rel=>exact ⟨k+1,n,outs,by omega,by omega,by omega,rfl,by go_num,HO,HP,HN2,hb⟩
    case measure=>simp [RowKit.intOf];omega
   ·have hb47:b=47:=by simpa using h47
    have he:((b.toNat:Int) == 47)=true:=by rw [hb47];rfl
    have HP2:Hid (partsL s=(outs++[s.extract n k])++partsFrom s (k+1)):=Lib.hid (by
     rw [HP.out,partsFrom_some hnk hlt (by rw [hbb,hb47]) HN.out]
     simp)
    clear h47 hb47 hg
    go_wp2_with (at_builtin;refine Kd.R_append Kd.string (w0:=w) w.heap.size rfl (.tmp 16) (.tmp 21) 39 9 (.string ⟨#[]⟩) 16 rfl Tryz.underlying39 info_str rfl (by decide) (by decide) _ outs (s.extract n k) [.string (s.extract n k)] (fun _=>True) (fun _=>False) rfl rfl ?aP (fun _ hk=>hk.elim) ?aF ?aO ?aB ?aS ?aL ?_;(case aP=>exact rfl);(case aF=>exact (fun _ _=>trivial));(case aO=>exact HO.out);(case aB=>exact hb);(case aS=>exact hsz);(case aL=>omega);intro v1 w4 ho hb4 hg hat)
    go_roundw
    case rel=>exact ⟨k+1,k+1,outs++[s.extract n k],by omega,by omega,by simp;omega,by go_num,by go_num,Lib.hid ho,HP2,Lib.hid (fun j h1 h2=>by omega),hb4⟩
    case measure=>simp [RowKit.intOf];omega
  ·obtain rfl:k=s.size:=by omega
   have HP2:Hid (partsL s=outs++[s.extract n s.size]):=Lib.hid (by rw [HP.out,partsFrom_none hnk HN.out])
   go_wp2_with (at_builtin;refine Kd.R_append Kd.string (w0:=w) w.heap.size rfl (.tmp 25) (.tmp 29) 39 9 (.string ⟨#[]⟩) 16 rfl Tryz.underlying39 info_str rfl (by decide) (by decide) _ outs (s.extract n s.size) [.string (s.extract n s.size)] (fun _=>True) (fun _=>False) rfl rfl ?aP (fun _ hk=>hk.elim) ?aF ?aO ?aB ?aS ?aL ?_;(case aP=>exact rfl);(case aF=>exact (fun _ _=>trivial));(case aO=>exact HO.out);(case aB=>exact hb);(case aS=>exact hsz);(case aL=>omega);intro v1 w4 ho hb4 hg hat)
   go_ret
   exact ⟨_,rfl,by rw [HP2.out];exact ho,hb4⟩
end
end Go.Proofs.YthlcjjhfkldmhaaGreatDoor.P
