/- Package vfs, plain: what a call does to a tree. -/
import Derived.Test.YthlcjjhfkldmhaaDoorVWalkS
import Derived.Test.YthlcjjhfkldmhaaDoorTPutA
set_option linter.unusedVariables false
set_option linter.unusedSimpArgs false
namespace Go.Proofs.YthlcjjhfkldmhaaDoor.G
open Go.RowKit Go.Lib Go.Proofs.YthlcjjhfkldmhaaDoorW.PrintWords Go.Proofs.YthlcjjhfkldmhaaDoorW.PrintLast
set_option linter.unusedVariables false

/-- A call: its kind, its path, the other path, the error that it answered. -/
structure Call where
  kind : Int
  path : List ByteArray
  dest : List ByteArray
  why : Int
/-- A request: its paths and data. -/
structure Req where
  p : List ByteArray
  dest : List ByteArray
  data : ByteArray
/-- What a call answers: the kind and the size (Lstat), the data (Read). -/
structure Told where
  kind : Int
  size : Int
  data : ByteArray
def told0 (d : ByteArray) : Told := ⟨0, 0, d⟩
def textF (d : ByteArray) : File := ⟨⟨#[]⟩, 2, d, []⟩
/-- put has a text stand at a real path. -/
def putV (t : File) (p : List ByteArray) (s : File) : File × Int := if (putA t p s).2 = 0 then putA t p s else (t, (putA t p s).2)
def lstatR (t : File) (x : Req) : File × Told × Int :=
  let r := walkR t x.p false
  if r.2.2.2 = 0 then (if r.2.2.1 = true then (t, ⟨r.2.1.kind, r.2.1.data.size, x.data⟩, 0) else (t, told0 x.data, 31)) else (t, told0 x.data, r.2.2.2)
def readV (t : File) (x : Req) : File × Told × Int :=
  let r := walkR t x.p true
  if r.2.2.2 = 0 then (if r.2.2.1 = true then (if r.2.1.kind = 1 then (t, told0 x.data, 40) else (t, told0 r.2.1.data, 0)) else (t, told0 x.data, 31)) else (t, told0 x.data, r.2.2.2)
def createR (t : File) (x : Req) : File × Told × Int :=
  let r := walkR t x.p true
  if r.2.2.2 = 0 then (if r.2.2.1 = true ∧ r.2.1.kind = 1 then (t, told0 x.data, 40) else ((putV t r.1 (textF ⟨#[]⟩)).1, told0 x.data, (putV t r.1 (textF ⟨#[]⟩)).2)) else (t, told0 x.data, r.2.2.2)
def appendR (t : File) (x : Req) : File × Told × Int :=
  let r := walkR t x.p true
  if r.2.2.2 = 0 then (if r.2.2.1 = true then (if r.2.1.kind = 1 then (t, told0 x.data, 40) else ((putV t r.1 (textF (r.2.1.data ++ x.data))).1, told0 x.data, (putV t r.1 (textF (r.2.1.data ++ x.data))).2)) else (t, told0 x.data, 31)) else (t, told0 x.data, r.2.2.2)
def renameR (t : File) (x : Req) : File × Told × Int :=
  let r := walkR t x.p false
  if r.2.2.2 = 0 then (if r.2.2.1 = true then (if r.2.1.kind = 1 then (t, told0 x.data, 40) else
      (let q := walkR t x.dest false
       if q.2.2.2 = 0 then (if q.2.2.1 = true ∧ q.2.1.kind = 1 then (t, told0 x.data, 40) else
          (if r.1 = q.1 then (t, told0 x.data, 0) else
            (let d := dropA t r.1
             if d.2 = 0 then (let u := putA d.1 q.1 r.2.1
               if u.2 = 0 then (u.1, told0 x.data, 0) else (t, told0 x.data, u.2)) else (t, told0 x.data, d.2))))
       else (t, told0 x.data, q.2.2.2)))
    else (t, told0 x.data, 31)) else (t, told0 x.data, r.2.2.2)
def opR (kind : Int) : File → Req → File × Told × Int :=
  if kind = 1 then lstatR else if kind = 2 then readV else if kind = 3 then createR else if kind = 4 then appendR else renameR
/-- A file system: its tree, its trace, the calls that fail. -/
structure FsV where
  tree : File
  trace : List Call
  faults : List Int
def callV (f : FsV) (kind : Int) (x : Req) : FsV × Told × Int :=
  if P.rightB x.p = true ∧ P.rightB x.dest = true then
    (let r := if (f.trace.length : Int) ∈ f.faults then (f.tree, told0 x.data, 42) else opR kind f.tree x
     ({ f with tree := r.1, trace := f.trace ++ [⟨kind, x.p, if kind = 5 then x.dest else [], r.2.2⟩] }, r.2.1, r.2.2))
  else (f, told0 x.data, 20)
end Go.Proofs.YthlcjjhfkldmhaaDoor.G
