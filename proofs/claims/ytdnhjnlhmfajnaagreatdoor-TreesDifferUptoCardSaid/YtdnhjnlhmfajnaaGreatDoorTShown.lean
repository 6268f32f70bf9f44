import Derived.Test.YtdnhjnlhmfajnaaGreatDoorTBelow
set_option linter.unusedVariables false
set_option linter.unusedSimpArgs false
namespace Go.Proofs.YtdnhjnlhmfajnaaGreatDoor.G
open Go.RowKit Go.Lib Go.Proofs.YtdnhjnlhmfajnaaGreatDoorW.PrintWords Go.Proofs.YtdnhjnlhmfajnaaGreatDoorW.PrintLast
set_option linter.unusedVariables false
def shownS (l:List ByteArray):ByteArray:=l.foldl (fun s n=>s++(⟨#[47]⟩++n)) ⟨#[]⟩
theorem shown_take {l:List ByteArray} {k:Nat} (h:k<l.length):shownS (l.take (k+1))=shownS (l.take k)++(⟨#[47]⟩++l[k]):=by
 unfold shownS
 rw [List.take_succ_eq_append_getElem h,List.foldl_append]
 rfl
theorem shown_fold (l:List ByteArray):∀ s:ByteArray,s.size≤(l.foldl (fun s n=>s++(⟨#[47]⟩++n)) s).size:=by
 induction l with
 | nil=>intro s;exact Nat.le_refl _
 | cons x l ih =>
  intro s
  have:=ih (s++(⟨#[47]⟩++x))
  rw [ByteArray.size_append] at this
  simp only [List.foldl_cons]
  omega
theorem shown_take_le (l:List ByteArray) (k:Nat):(shownS (l.take k)).size≤(shownS l).size:=by
 have h:shownS l=(l.drop k).foldl (fun s n=>s++(⟨#[47]⟩++n)) (shownS (l.take k)):=by
  unfold shownS
  rw [← List.foldl_append,List.take_append_drop]
 rw [h]
 exact shown_fold _ _
set_option maxHeartbeats 4000000 in
theorem shown_calls (A:Option Addr) (c:Nat) (l:List ByteArray) (w:World) (hr:Kd.C Kd.string w A l.length l) (hc:l.length≤c) (hl:l.length≤1099511627776) (hs:(shownS l).size≤70368744177664) :
  Calls Tryz.prog 41 #[.slice A l.length c] w fun e w'=>e=.returned (.string (shownS l))∧w'=w:=by
 have HR:=Lib.hid hr
 clear hr
 go_enter Tryz.func41,Tryz.ntmps41
 go_wp2_with fail
 go_loop [3,8] (fun s i=>∃ k:Nat,k≤l.length∧i=.int .i64 k∧s=.string (shownS (l.take k))) (fun _ i=>l.length - (RowKit.intOf i).toNat)
 case atStart=>exact ⟨0,by omega,rfl,rfl⟩
 case round =>
  obtain ⟨k,hk,rfl,rfl⟩:=hrel
  by_cases hlt:k<l.length
  ·obtain ⟨ad,rfl,hx⟩:=Kd.at_string HR.out (k:Int) (by omega) (by omega)
   rw [Int.toNat_natCast] at hx
   have he:rdOf ByteArray.empty l (k:Int)=l[k]:=by simp [rdOf,hlt]
   rw [he] at hx
   have HS:=Lib.hid (shown_take hlt)
   have hle:=shown_take_le l (k+1)
   rw [HS.out] at hle
   have hsz:=hle
   rw [ByteArray.size_append,ByteArray.size_append] at hsz
   have h1:(⟨#[47]⟩:ByteArray).size=1:=rfl
   clear he hle
   generalize l[k]=n at *
   generalize shownS (l.take k)=s at *
   have g1:(k:Int)<(l.length:Int):=by omega
   go_wp2_with fail
   go_round
   case rel=>exact ⟨k+1,by omega,by go_num,by rw [HS.out]⟩
   case measure=>simp [RowKit.intOf];omega
  ·obtain rfl:k=l.length:=by omega
   rw [List.take_length]
   go_wp2_with fail
   go_ret
   exact ⟨rfl,rfl⟩
end Go.Proofs.YtdnhjnlhmfajnaaGreatDoor.G
