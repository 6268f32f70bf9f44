import Derived.Test.YthlcjjhfkldmhaaGreatDoorName
import Derived.Test.YthlcjjhfkldmhaaGreatDoorQLast
import Derived.Test.YthlcjjhfkldmhaaGreatDoorQApart
import Derived.Lib.SliceRun
import Derived.BigQuiet
import Derived.IntWalk
set_option linter.unusedVariables false
set_option linter.unusedSimpArgs false
section
namespace Go.Proofs.YthlcjjhfkldmhaaGreatDoor.G
open Go.RowKit Go.Lib Go.Proofs.YthlcjjhfkldmhaaGreatDoorW.PrintWords Go.Proofs.YthlcjjhfkldmhaaGreatDoorW.PrintLast
set_option linter.unusedVariables false
theorem info_str:(Tryz.prog.info? 9).map (fun i=>(i.zero,i.size,i.bytes))=some (some (.string ⟨#[]⟩),1,16):=by kernel_rfl
theorem R_lit0 {α:Type} (d:Kd α) (e:Nat) (W:World) (base:Nat) (ok:Nat→Prop) (hb:base≤W.heap.size) (hok:∀ k,W.heap.size≤k→ok k) :
  d.R e (W.alloc (.cells #[] e)) base ok (.slice (some ⟨W.heap.size,0,none⟩) 0 0) [] :=
 ⟨fun k hk=>hok k (by simp [Value.ownBlock] at hk;omega),OwnRow.lit W base (Reps.none _ _) hb (by simp)⟩
set_option maxHeartbeats 1000000 in
theorem clone_calls (A:Option Addr) (c:Nat) (l:List ByteArray) (w:World) (hr:Kd.C Kd.string w A l.length l) (hc:l.length≤c) (hl:l.length≤8796093022208) :
  Calls Tryz.prog 34 #[.slice A l.length c] w fun e w'=>∃ v,e=.returned v∧Kd.R Kd.string 9 w' w.heap.size (fun _=>True) v l∧Below w.heap.size w w':=by
 have hq:=fun W=>Lib.run_eql_slice_nil (P:=Tryz.prog) W 40 9 A l.length c 0 0 Tryz.underlying40
 have HR:=Lib.hid hr
 clear hr
 cases A with
 | none =>
  go_enter Tryz.func34,Tryz.ntmps34
  go_wp2
  go_ret
  refine ⟨_,rfl,?_,Below.refl _ _⟩
  have:l=[]:=by
   rcases Nat.eq_zero_or_pos l.length with h | h
   ·exact List.length_eq_zero_iff.1 h
   ·obtain ⟨ad,h',_⟩:=Kd.at_string HR.out 0 (by omega) (by omega);cases h'
  subst this
  exact Kd.R_nil _ _ _ _ _
 | some ad =>
  go_enter Tryz.func34,Tryz.ntmps34
  go_wp2_with (at_builtin;refine Kd.R_append_row Value.string ByteArray.empty (h1:=fun _=>rfl) (w0:=w) w.heap.size rfl (.tmp 5) (.tmp 6) 40 9 (.string ⟨#[]⟩) 16 rfl Tryz.underlying40 info_str rfl (by decide) _ [] l (some ad) l.length c (fun _=>True) rfl rfl (fun _ _=>trivial) ?aO ?aR ?aB ?aS ?aL ?_;(case aO=>exact R_lit0 _ _ _ _ _ (Nat.le_refl _) (fun _ _=>trivial));(case aR=>exact Kd.C_below HR.out ((Below.refl _ _).alloc (Nat.le_refl _) _));(case aB=>exact (Below.refl _ _).alloc (Nat.le_refl _) _);(case aS=>simp);(case aL=>simp;omega);intro v1 w1 ho hb hg hat)
  go_ret
  exact ⟨_,rfl,ho,hb⟩
theorem toList_inj {x y:ByteArray}:x.toList=y.toList↔x=y:=by
 rw [Lib.toList_data,Lib.toList_data]
 constructor
 ·intro h
  exact ByteArray.ext (Array.toList_inj.1 h)
 ·rintro rfl;rfl
end Go.Proofs.YthlcjjhfkldmhaaGreatDoor.G
end
section
namespace Go.Proofs.YthlcjjhfkldmhaaGreatDoor.G
open Go.RowKit Go.Lib Go.Proofs.YthlcjjhfkldmhaaGreatDoorW.PrintWords Go.Proofs.YthlcjjhfkldmhaaGreatDoorW.PrintLast
set_option linter.unusedVariables false
structure File where
 name:ByteArray
 kind:Int
 data:ByteArray
 files:List File
def FileF (d:Kd File):Kd File:=Kd.iso (Kd.pair Kd.string (Kd.pair (Kd.int .u8) (Kd.pair Kd.string (Kd.slice 25 d)))) (fun x:File=>(x.name,x.kind,x.data,x.files))
theorem fileMono:Kd.Mono FileF:=Kd.mono_iso _ (Kd.mono_pair (Kd.mono_const _) (Kd.mono_pair (Kd.mono_const _) (Kd.mono_pair (Kd.mono_const _) (Kd.mono_slice 25 Kd.mono_id))))
theorem fileSub:Kd.Sub FileF [25]:=Kd.sub_iso _ (Kd.sub_pair (Kd.sub_const _ (by decide)) (Kd.sub_pair (Kd.sub_const _ (by decide)) (Kd.sub_pair (Kd.sub_const _ (by decide)) (Kd.sub_slice 25 (by decide) Kd.sub_id))))
theorem fileSz:∀ n,(Kd.upto FileF 4 [25] n).sz=4:=Kd.upto_sz (fun _=>rfl)
def FileK:Kd File:=Kd.fix FileF 4 [25] fileSz (Kd.upto_E fileSub)
theorem file_open {w:World} {x:File} {cs:List Value} (h:FileK.K w x cs):∃ A c,cs=[.string x.name,.int .u8 x.kind,.string x.data,.slice A x.files.length c]∧x.files.length≤c∧FileK.C w A x.files.length x.files:=by
 obtain ⟨n,h⟩:=h
 cases n with
 | zero=>exact h.elim
 | succ n =>
  obtain ⟨_,_,rfl,rfl,⟨_,_,rfl,rfl,⟨_,_,rfl,rfl,⟨A,c,rfl,l,g⟩⟩⟩⟩:=h
  exact ⟨A,c,rfl,l,Kd.fix_C g⟩
theorem file_mk (w:World) (x:File) {A:Option Addr} {c:Nat} (l:x.files.length≤c) (g:FileK.C w A x.files.length x.files):FileK.K w x [.string x.name,.int .u8 x.kind,.string x.data,.slice A x.files.length c]:=by
 obtain ⟨n,q⟩:=Kd.fix_C_back fileMono g
 exact ⟨n+1,⟨[.string x.name],[.int .u8 x.kind,.string x.data,.slice A x.files.length c],rfl,rfl,⟨[.int .u8 x.kind],[.string x.data,.slice A x.files.length c],rfl,rfl,⟨[.string x.data],[.slice A x.files.length c],rfl,rfl,⟨A,c,rfl,l,q⟩⟩⟩⟩⟩
theorem file_mkM (w:World) (base:Nat) (ok:Nat→Prop) (x:File) {v:Value} (g:FileK.R 25 w base ok v x.files):FileK.M w base ok x [.string x.name,.int .u8 x.kind,.string x.data,v]:=by
 obtain ⟨n,q⟩:=Kd.fix_R_back fileMono g
 exact ⟨n+1,⟨[.string x.name],[.int .u8 x.kind,.string x.data,v],rfl,rfl,⟨[.int .u8 x.kind],[.string x.data,v],rfl,rfl,⟨[.string x.data],[v],rfl,rfl,⟨v,rfl,q⟩⟩⟩⟩⟩
def zeroF:File:=⟨⟨#[]⟩,0,⟨#[]⟩,[]⟩
theorem file_at {w:World} {A:Option Addr} {xs:List File} (h:FileK.C w A xs.length xs) (k:Nat) (hk:k<xs.length) :
  ∃ ad A' c',A=some ad∧w.cell? (ad.add (k * 4))=some (.string xs[k].name)∧w.cell? ⟨(ad.add (k * 4)).block,(ad.add (k * 4)).off+1,none⟩=some (.int .u8 xs[k].kind)
   ∧ w.cell? ⟨(ad.add (k * 4)).block,(ad.add (k * 4)).off+2,none⟩=some (.string xs[k].data)∧w.cell? ⟨(ad.add (k * 4)).block,(ad.add (k * 4)).off+3,none⟩=some (.slice A' xs[k].files.length c')
   ∧ xs[k].files.length≤c'∧FileK.C w A' xs[k].files.length xs[k].files:=by
 obtain ⟨ad,c,e,_,hK,hc0⟩:=Kd.C_get h zeroF (k:Int) (by omega) (by omega)
 rw [Int.toNat_natCast] at hc0 hK
 have hg:xs.getD k zeroF=xs[k]:=by simp [List.getD,hk]
 rw [hg] at hK
 have hc:∀ j u,c[j]? = some u→w.cell? (ad.add (k * 4+j))=some u:=hc0
 obtain ⟨A',c',rfl,l,g⟩:=file_open hK
 exact ⟨ad,A',c',e,hc 0 _ rfl,by rw [← add_field _ _ 1 (by omega)];exact hc 1 _ rfl,by rw [← add_field _ _ 2 (by omega)];exact hc 2 _ rfl,by rw [← add_field _ _ 3 (by omega)];exact hc 3 _ rfl,l,g⟩
def File.bulk:File→Nat
 | ⟨n,_,d,l⟩=>4+n.size+d.size+(l.attach.map fun ⟨x,_⟩=>x.bulk).sum
def bulkL (l:List File):Nat:=(l.map File.bulk).sum
theorem bulk_eq (x:File):x.bulk=4+x.name.size+x.data.size+bulkL x.files:=by
 cases x with
 | mk n k d l =>
  have h:(l.attach.map fun x=>x.1.bulk)=l.map File.bulk:=by
   conv=>rhs;rw [← List.attach_map_subtype_val l,List.map_map]
   rfl
  show File.bulk _=_
  rw [File.bulk]
  show 4+n.size+d.size+(l.attach.map fun x=>x.1.bulk).sum=_
  rw [h]
  rfl
theorem bulkL_mem {l:List File} {x:File} (h:x∈l):x.bulk≤bulkL l:=by
 induction l with
 | nil=>cases h
 | cons y l ih =>
  simp only [bulkL,List.map_cons,List.sum_cons]
  rcases List.mem_cons.1 h with rfl | h
  ·omega
  ·have:=ih h;simp only [bulkL] at this;omega
theorem bulk_child {f x:File} (h:x∈f.files):x.bulk+4≤f.bulk:=by
 have h1:=bulkL_mem h
 have h2:=bulk_eq f
 omega
theorem bulkL_len (l:List File):4 * l.length≤bulkL l:=by
 induction l with
 | nil=>simp [bulkL]
 | cons y l ih =>
  have:=bulk_eq y
  simp only [bulkL,List.map_cons,List.sum_cons,List.length_cons] at *
  omega
abbrev fc (x : File) (A : Option Addr) (c : Nat) : Array Value := #[.string x.name, .int .u8 x.kind, .string x.data, .slice A x.files.length c]
end Go.Proofs.YthlcjjhfkldmhaaGreatDoor.G
end
