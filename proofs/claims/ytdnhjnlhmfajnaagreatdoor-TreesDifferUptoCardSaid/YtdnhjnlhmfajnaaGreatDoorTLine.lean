import Derived.Test.YtdnhjnlhmfajnaaGreatDoorTEach
import Derived.Test.YtdnhjnlhmfajnaaGreatDoorTTold
import Derived.Test.YtdnhjnlhmfajnaaGreatDoorTWords
import Derived.Test.YtdnhjnlhmfajnaaGreatDoorTShown
set_option linter.unusedVariables false
set_option linter.unusedSimpArgs false
namespace Go.Proofs.YtdnhjnlhmfajnaaGreatDoor.G
open Go.RowKit Go.Lib Go.Proofs.YtdnhjnlhmfajnaaGreatDoorW.PrintWords Go.Proofs.YtdnhjnlhmfajnaaGreatDoorW.PrintLast
set_option linter.unusedVariables false
def quoteQ (s:ByteArray):List UInt8:=34 :: quoteL toldB s.data.toList++[34]
def headS (q:List ByteArray) (k:Int):ByteArray:=wordS k++⟨#[32]⟩++⟨(quoteQ (shownS q)).toArray⟩
def tailS (d:ByteArray):ByteArray:=⟨#[32]⟩++⟨(quoteQ d).toArray⟩
def lineB (y:List ByteArray×File):List UInt8:=(headS y.1 y.2.kind).data.toList++(if y.2.kind=1 then [] else (tailS y.2.data).data.toList)++[10]
def printL (l:List (List ByteArray×File)):List UInt8:=(l.map lineB).flatten
theorem printL_snoc (l:List (List ByteArray×File)) (y:List ByteArray×File):printL (l++[y])=printL l++lineB y:=by simp [printL]
theorem wordS_size (k:Int):(wordS k).size≤4:=by
 unfold wordS
 split
 ·decide
 ·split
  ·decide
  ·split <;> decide
theorem quoteQ_len (s:ByteArray):(quoteQ s).length≤4 * s.size+2:=by
 have h:=quote_len toldB toldB_len s.data.toList
 simp only [quoteQ,List.length_append,List.length_cons,List.length_nil]
 rw [← Lib.size_eq] at h
 omega
theorem mk_size (l:List UInt8):(⟨l.toArray⟩:ByteArray).size=l.length:=by simp [ByteArray.size]
theorem headS_size (q:List ByteArray) (k:Int):(headS q k).size≤4 * (shownS q).size+7:=by
 have h1:=wordS_size k
 have h2:=quoteQ_len (shownS q)
 have h4:=mk_size (quoteQ (shownS q))
 rw [headS,ByteArray.size_append,ByteArray.size_append]
 have h3:(⟨#[32]⟩:ByteArray).size=1:=rfl
 omega
theorem tailS_size (d:ByteArray):(tailS d).size≤4 * d.size+3:=by
 have h2:=quoteQ_len d
 have h4:=mk_size (quoteQ d)
 rw [tailS,ByteArray.size_append]
 have h3:(⟨#[32]⟩:ByteArray).size=1:=rfl
 omega
theorem lineB_len (y:List ByteArray×File):(lineB y).length≤4 * ((shownS y.1).size+y.2.data.size)+11:=by
 have h1:=headS_size y.1 y.2.kind
 have h2:=tailS_size y.2.data
 rw [Lib.size_eq] at h1 h2
 unfold lineB
 split
 ·simp only [List.length_append,List.length_cons,List.length_nil]
  omega
 ·simp only [List.length_append,List.length_cons,List.length_nil]
  omega
theorem shownS_snoc (p:List ByteArray) (n:ByteArray):(shownS (p++[n])).size=(shownS p).size+(1+n.size):=by
 simp only [shownS,List.foldl_append,List.foldl_cons,List.foldl_nil,ByteArray.size_append]
 rfl
theorem bulkL_cons (x:File) (l:List File):bulkL (x :: l)=x.bulk+bulkL l:=by simp [bulkL]
mutual
theorem preF_bound:∀ (f:File) (p:List ByteArray) (y:List ByteArray×File),y∈preF p f→(shownS y.1).size+y.2.data.size+bulkL y.2.files≤(shownS p).size+bulkL f.files∧y.1.length+bulkL y.2.files≤p.length+bulkL f.files
 | ⟨n,k,d,l⟩,p,y,h=>by
  rw [preF] at h
  exact preL_bound l p y h
theorem preL_bound:∀ (l:List File) (p:List ByteArray) (y:List ByteArray×File),y∈preL p l→(shownS y.1).size+y.2.data.size+bulkL y.2.files≤(shownS p).size+bulkL l∧y.1.length+bulkL y.2.files≤p.length+bulkL l
 | [],p,y,h=>by simp [preL] at h
 | x :: l,p,y,h=>by
  rw [preL] at h
  rw [bulkL_cons]
  have hb:=bulk_eq x
  rcases List.mem_cons.1 h with rfl | h
  ·have hs:=shownS_snoc p x.name
   simp only [List.length_append,List.length_cons,List.length_nil]
   omega
  ·rcases List.mem_append.1 h with h | h
   ·have h1:=preF_bound x _ y h
    have hs:=shownS_snoc p x.name
    simp only [List.length_append,List.length_cons,List.length_nil] at h1
    omega
   ·have h1:=preL_bound l p y h
    omega
end
mutual
theorem preF_count:∀ (f:File) (p:List ByteArray),4 * (preF p f).length≤bulkL f.files
 | ⟨n,k,d,l⟩,p=>by
  rw [preF]
  exact preL_count l p
theorem preL_count:∀ (l:List File) (p:List ByteArray),4 * (preL p l).length≤bulkL l
 | [],p=>by simp [preL]
 | x :: l,p=>by
  rw [preL,bulkL_cons]
  have hb:=bulk_eq x
  have h1:=preF_count x (p++[x.name])
  have h2:=preL_count l p
  simp only [List.length_cons,List.length_append]
  omega
end
theorem flat_len (g:List ByteArray×File→List UInt8) (M:Nat):∀ (l:List (List ByteArray×File)),(∀ y∈l,(g y).length≤M)→(l.map g).flatten.length≤l.length * M
 | [],_=>by simp
 | y :: l,h=>by
  have h1:=h y List.mem_cons_self
  have h2:=flat_len g M l fun z hz=>h z (List.mem_cons_of_mem _ hz)
  simp only [List.map_cons,List.flatten_cons,List.length_append,List.length_cons]
  rw [Nat.succ_mul]
  omega
theorem print_len (f:File) (hb:f.bulk≤6500000) (pre:List (List ByteArray×File)) (hp:pre <+: preF [] f):(printL pre).length≤42250017875000:=by
 have h1:∀ y∈pre,(lineB y).length≤26000011:=fun y hy=>by
  have h2:=lineB_len y
  have h3:=(preF_bound f [] y (hp.subset hy)).1
  have h4:=bulk_eq f
  have h5:(shownS []).size=0:=rfl
  omega
 have h2:=flat_len lineB 26000011 pre h1
 have h3:=hp.length_le
 have h4:=preF_count f []
 have h5:=bulk_eq f
 have h6:pre.length * 26000011≤1625000 * 26000011:=Nat.mul_le_mul_right _ (by omega)
 unfold printL
 omega
end Go.Proofs.YtdnhjnlhmfajnaaGreatDoor.G
