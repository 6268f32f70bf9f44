import Derived.Shelf.Strings.Builder1
import Derived.Shelf.Small.Utf8
import Derived.Shelf.Small.Bits
import Derived.Shelf.Small.Strs
import Derived.Shelf.Small.Wraps
import Derived.Shelf.Strings.BuilderF
import Derived.Shelf.Strings.BuilderK
import Derived.Shelf.Utf8.RuneCount
import Derived.Shelf.Strconv.Itoa0
import Derived.Shelf.Strings.Search1
import Derived.Shelf.Strings.Search2
import Derived.Shelf.Strings.Search3
import Derived.Shelf.Strings.Cut
import Derived.Shelf.Strings.Count
import Derived.Shelf.LaysM
import Derived.Shelf.Strings.Shaped
import Derived.Shelf.Strings.Prefix
import Derived.Shelf.Strings.Split
import Derived.Shelf.Strings.SplitShaped
import Derived.Shelf.Unicode.Decode
import Derived.Shelf.Strings.Runes
import Derived.Shelf.Strings.RuneCount
import Derived.Shelf.Strings.IndexAny
import Derived.Shelf.Strings.AsciiSet
import Derived.Shelf.Strings.IndexAnyAll
import Derived.Shelf.Strings.Explode
import Derived.Shelf.Unicode.DecodeSlow
import Derived.Shelf.Unicode.DecodeAny
import Derived.Shelf.Strings.BuilderCap
import Derived.Ground.Names2Prog
import Derived.Shelf.Slices.SearchI
import Derived.Test.YtdnhjnlhmfajnaaGreatDoorProg
import Derived.Test.YtdnhjnlhmfajnaaGreatDoorKit
import Derived.Lib.SpaceUEq
import Derived.WalkKit
import Derived.Outline
import Derived.WalkLawsBesides
import Derived.WalkSpells
import Derived.Deep.QuietTactic
import Derived.BigQuiet
import Derived.Lib.Hide
import Derived.Deep.LoopGhost
set_option linter.unusedVariables false
set_option linter.unusedSimpArgs false
section
namespace Go.Proofs
open Go.Shelf
def Tryz.lays169_ren:Go.Shelf.Ren:=⟨fun | 169=>43 | n=>n,fun | 70=>63 | 9=>9 | 0=>0 | 72=>66 | 37=>64 | 127=>122 | 3=>3 | 5=>5 | n=>n,fun | n=>n⟩
theorem Tryz.lays169:Go.Proofs.Lays.n169 Tryz.prog Tryz.lays169_ren:={
 mixed:=by kernel_rfl
 f169:=Tryz.func43.trans (congrArg some (by kernel_rfl))
 t0:=Tryz.underlying0
 a0:=Tryz.isAgg0
 z0:=Tryz.sizeOf0
 v0:=Tryz.zeroValue0
 t3:=Tryz.underlying3
 a3:=Tryz.isAgg3
 z3:=Tryz.sizeOf3
 v3:=Tryz.zeroValue3
 t9:=Tryz.underlying9
 a9:=Tryz.isAgg9
 z9:=Tryz.sizeOf9
 v9:=Tryz.zeroValue9
 t37:=Tryz.underlying64
 a37:=Tryz.isAgg64
 z37:=Tryz.sizeOf64
 v37:=Tryz.zeroValue64
 t70:=Tryz.underlying63
 a70:=Tryz.isAgg63
 z70:=Tryz.sizeOf63
 v70:=Tryz.zeroValue63
 t72:=Tryz.underlying66
 a72:=Tryz.isAgg66
 z72:=Tryz.sizeOf66
 v72:=Tryz.zeroValue66
 t127:=Tryz.underlying122
 a127:=Tryz.isAgg122
 z127:=Tryz.sizeOf122
 v127:=Tryz.zeroValue122}
theorem Tryz.Builder_Extra_169:Builder.Extra Tryz.prog Tryz.lays169_ren:={
 sizeBuilder:=by kernel_rfl
 liesBuilder:=by kernel_rfl
 t5:=Tryz.underlying5
 a5:=Tryz.isAgg5
 z5:=Tryz.sizeOf5
 v5:=Tryz.zeroValue5
 infoByte:=by kernel_rfl
 cellsByte:=by kernel_rfl
 sizeByte:=by kernel_rfl
 neB5:=by decide}
open Go.RowKit in
theorem Tryz.Builder_String_any (B b:Nat) (l:List UInt8) (w:World) (h:Lib.IsBuilder 66 5 B b (Lib.byteCells l) w) (hBw:B≤w.heap.size) :
  Calls Tryz.prog 43 #[.pointer (some ⟨b,0,none⟩)] w fun e w'=>e=.returned (.string ⟨l.toArray⟩)∧Below B w w':=Any.Builder_String_any Tryz.lays169 Tryz.Builder_Extra_169 B b l w h hBw
def Tryz.lays119_ren:Go.Shelf.Ren:=⟨fun | 119=>182 | n=>n,fun | 21=>21 | 4=>4 | n=>n,fun | n=>n⟩
theorem Tryz.lays119:Go.Proofs.Lays.n119 Tryz.prog Tryz.lays119_ren:={
 mixed:=by kernel_rfl
 f119:=Tryz.func182.trans (congrArg some (by kernel_rfl))
 t4:=Tryz.underlying4
 a4:=Tryz.isAgg4
 z4:=Tryz.sizeOf4
 v4:=Tryz.zeroValue4
 t21:=Tryz.underlying21
 a21:=Tryz.isAgg21
 z21:=Tryz.sizeOf21
 v21:=Tryz.zeroValue21}
theorem Tryz.utf8_ValidRune (r:Int) (w:World) :
  Calls Tryz.prog 182 #[.int .i32 r] w fun e w'=>e=.returned (.bool (Lib.validRune r))∧w'=w:=Any.utf8_ValidRune Tryz.lays119 r w
def Tryz.lays106_ren:Go.Shelf.Ren:=⟨fun | 106=>93 | 213=>122 | 265=>159 | n=>n,fun | 9=>9 | 3=>3 | n=>n,fun | n=>n⟩
theorem Tryz.lays106:Go.Proofs.Lays.n106 Tryz.prog Tryz.lays106_ren:={
 mixed:=by kernel_rfl
 f106:=Tryz.func93.trans (congrArg some (by kernel_rfl))
 f213:=Tryz.func122.trans (congrArg some (by kernel_rfl))
 f265:=Tryz.func159.trans (congrArg some (by kernel_rfl))
 t3:=Tryz.underlying3
 a3:=Tryz.isAgg3
 z3:=Tryz.sizeOf3
 v3:=Tryz.zeroValue3
 t9:=Tryz.underlying9
 a9:=Tryz.isAgg9
 z9:=Tryz.sizeOf9
 v9:=Tryz.zeroValue9}
open Go.RowKit in
theorem Tryz.strings_Compare (a b:ByteArray) (w:World) :
  Calls Tryz.prog 93 #[.string a,.string b] w fun e w'=>e=.returned (.int .i64 (Lib.compareBytes a.data.toList b.data.toList))∧w'=w:=Any.strings_Compare Tryz.lays106 a b w
def Tryz.lays137_ren:Go.Shelf.Ren:=⟨fun | 137=>95 | 217=>124 | 266=>160 | n=>n,fun | 9=>9 | 5=>5 | 3=>3 | n=>n,fun | n=>n⟩
theorem Tryz.lays137:Go.Proofs.Lays.n137 Tryz.prog Tryz.lays137_ren:={
 mixed:=by kernel_rfl
 f137:=Tryz.func95.trans (congrArg some (by kernel_rfl))
 f217:=Tryz.func124.trans (congrArg some (by kernel_rfl))
 f266:=Tryz.func160.trans (congrArg some (by kernel_rfl))
 t3:=Tryz.underlying3
 a3:=Tryz.isAgg3
 z3:=Tryz.sizeOf3
 v3:=Tryz.zeroValue3
 t5:=Tryz.underlying5
 a5:=Tryz.isAgg5
 z5:=Tryz.sizeOf5
 v5:=Tryz.zeroValue5
 t9:=Tryz.underlying9
 a9:=Tryz.isAgg9
 z9:=Tryz.sizeOf9
 v9:=Tryz.zeroValue9}
open Go.RowKit in
theorem Tryz.strings_IndexByte (s:ByteArray) (c:Int) (w:World) :
  Calls Tryz.prog 95 #[.string s,.int .u8 c] w fun e w'=>e=.returned (.int .i64 (Lib.indexByte s.data.toList c.toNat.toUInt8))∧w'=w:=Any.strings_IndexByte Tryz.lays137 s c w
def Tryz.lays122_ren:Go.Shelf.Ren:=⟨fun | 122=>94 | 215=>123 | n=>n,fun | 3=>3 | 4=>4 | n=>n,fun | n=>n⟩
theorem Tryz.lays122:Go.Proofs.Lays.n122 Tryz.prog Tryz.lays122_ren:={
 mixed:=by kernel_rfl
 f122:=Tryz.func94.trans (congrArg some (by kernel_rfl))
 f215:=Tryz.func123.trans (congrArg some (by kernel_rfl))
 t3:=Tryz.underlying3
 a3:=Tryz.isAgg3
 z3:=Tryz.sizeOf3
 v3:=Tryz.zeroValue3
 t4:=Tryz.underlying4
 a4:=Tryz.isAgg4
 z4:=Tryz.sizeOf4
 v4:=Tryz.zeroValue4}
open Go.RowKit in
theorem Tryz.cmp_Compare_int (x y:Int) (w:World) :
  Calls Tryz.prog 94 #[.int .i64 x,.int .i64 y] w fun e w'=>e=.returned (.int .i64 (Lib.compareInt x y))∧w'=w:=Any.cmp_Compare_int Tryz.lays122 x y w
open Go.RowKit in
theorem Tryz.Builder_String_any_k (B b:Nat) (l:List UInt8) (w:World) (h:Lib.IsBuilderF 66 5 B b (Lib.byteCells l) w) (hBw:B≤w.heap.size) :
  Calls Tryz.prog 43 #[.pointer (some ⟨b,0,none⟩)] w fun e w'=>e=.returned (.string ⟨l.toArray⟩)∧(Lib.IsBuilderF 66 5 B b (Lib.byteCells l) w'∧Below B w w'∧Lib.OthersKept 5 (some b) w w'):=Any.Builder_String_any_k Tryz.lays169 Tryz.Builder_Extra_169 B b l w h hBw
def Tryz.lays219_ren:Go.Shelf.Ren:=⟨fun | 219=>153 | 217=>124 | 225=>169 | 224=>170 | 267=>171 | 266=>160 | 314=>180 | n=>n,fun | 9=>9 | 3=>3 | 4=>4 | 5=>5 | 46=>160 | 146=>215 | 51=>191 | n=>n,fun | 1=>1 | n=>n⟩
theorem Tryz.lays219:Go.Proofs.Lays.n219 Tryz.prog Tryz.lays219_ren:={
 mixed:=by kernel_rfl
 f217:=Tryz.func124.trans (congrArg some (by kernel_rfl))
 f219:=Tryz.func153.trans (congrArg some (by kernel_rfl))
 f224:=Tryz.func170.trans (congrArg some (by kernel_rfl))
 f225:=Tryz.func169.trans (congrArg some (by kernel_rfl))
 f266:=Tryz.func160.trans (congrArg some (by kernel_rfl))
 f267:=Tryz.func171.trans (congrArg some (by kernel_rfl))
 f314:=Tryz.func180.trans (congrArg some (by kernel_rfl))
 t3:=Tryz.underlying3
 a3:=Tryz.isAgg3
 z3:=Tryz.sizeOf3
 v3:=Tryz.zeroValue3
 t4:=Tryz.underlying4
 a4:=Tryz.isAgg4
 z4:=Tryz.sizeOf4
 v4:=Tryz.zeroValue4
 t5:=Tryz.underlying5
 a5:=Tryz.isAgg5
 z5:=Tryz.sizeOf5
 v5:=Tryz.zeroValue5
 t9:=Tryz.underlying9
 a9:=Tryz.isAgg9
 z9:=Tryz.sizeOf9
 v9:=Tryz.zeroValue9
 t46:=Tryz.underlying160
 a46:=Tryz.isAgg160
 z46:=Tryz.sizeOf160
 v46:=Tryz.zeroValue160
 t51:=Tryz.underlying191
 a51:=Tryz.isAgg191
 z51:=Tryz.sizeOf191
 v51:=Tryz.zeroValue191
 t146:=Tryz.underlying215
 a146:=Tryz.isAgg215
 z146:=Tryz.sizeOf215
 v146:=Tryz.zeroValue215
 g1:=by kernel_rfl}
open Go.RowKit Go.Lib in
theorem Tryz.stringslite_Index_one (s:ByteArray) (c:UInt8) (w:World) :
  Calls Tryz.prog 153 #[.string s,.string ⟨#[c]⟩] w fun e w'=>e=.returned (.int .i64 (Lib.indexByte s.data.toList c))∧w'=w:=Any.stringslite_Index_one Tryz.lays219 s c w
def Tryz.lays99_ren:Go.Shelf.Ren:=⟨fun | 99=>47 | 206=>88 | n=>n,fun | 9=>9 | 4=>4 | 3=>3 | n=>n,fun | n=>n⟩
theorem Tryz.lays99:Go.Proofs.Lays.n99 Tryz.prog Tryz.lays99_ren:={
 mixed:=by kernel_rfl
 f99:=Tryz.func47.trans (congrArg some (by kernel_rfl))
 f206:=Tryz.func88.trans (congrArg some (by kernel_rfl))
 t3:=Tryz.underlying3
 a3:=Tryz.isAgg3
 z3:=Tryz.sizeOf3
 v3:=Tryz.zeroValue3
 t4:=Tryz.underlying4
 a4:=Tryz.isAgg4
 z4:=Tryz.sizeOf4
 v4:=Tryz.zeroValue4
 t9:=Tryz.underlying9
 a9:=Tryz.isAgg9
 z9:=Tryz.sizeOf9
 v9:=Tryz.zeroValue9}
open Go.RowKit Go.Lib in
theorem Tryz.strings_HasPrefix (s p:ByteArray) (w:World) :
  Calls Tryz.prog 47 #[.string s,.string p] w fun e w'=>e=.returned (.bool (Lib.hasPrefix s.data.toList p.data.toList))∧w'=w:=Any.strings_HasPrefix Tryz.lays99 s p w
def Tryz.lays146_ren:Go.Shelf.Ren:=⟨fun | 146=>90 | 221=>120 | 268=>155 | 138=>156 | 143=>157 | 195=>172 | 197=>173 | 218=>174 | 219=>153 | 260=>181 | 217=>124 | 225=>169 | 224=>170 | 267=>171 | 266=>160 | 314=>180 | n=>n,fun | 9=>9 | 31=>36 | 3=>3 | 4=>4 | 0=>0 | 105=>206 | 21=>21 | 5=>5 | 46=>160 | 119=>219 | 139=>222 | 138=>221 | 146=>215 | 51=>191 | n=>n,fun | 1=>1 | 3=>2 | 4=>3 | n=>n⟩
theorem Tryz.lays146:Go.Proofs.Lays.n146 Tryz.prog Tryz.lays146_ren:={
 mixed:=by kernel_rfl
 f138:=Tryz.func156.trans (congrArg some (by kernel_rfl))
 f143:=Tryz.func157.trans (congrArg some (by kernel_rfl))
 f146:=Tryz.func90.trans (congrArg some (by kernel_rfl))
 f195:=Tryz.func172.trans (congrArg some (by kernel_rfl))
 f197:=Tryz.func173.trans (congrArg some (by kernel_rfl))
 f217:=Tryz.func124.trans (congrArg some (by kernel_rfl))
 f218:=Tryz.func174.trans (congrArg some (by kernel_rfl))
 f219:=Tryz.func153.trans (congrArg some (by kernel_rfl))
 f221:=Tryz.func120.trans (congrArg some (by kernel_rfl))
 f224:=Tryz.func170.trans (congrArg some (by kernel_rfl))
 f225:=Tryz.func169.trans (congrArg some (by kernel_rfl))
 f260:=Tryz.func181.trans (congrArg some (by kernel_rfl))
 f266:=Tryz.func160.trans (congrArg some (by kernel_rfl))
 f267:=Tryz.func171.trans (congrArg some (by kernel_rfl))
 f268:=Tryz.func155.trans (congrArg some (by kernel_rfl))
 f314:=Tryz.func180.trans (congrArg some (by kernel_rfl))
 t0:=Tryz.underlying0
 a0:=Tryz.isAgg0
 z0:=Tryz.sizeOf0
 v0:=Tryz.zeroValue0
 t3:=Tryz.underlying3
 a3:=Tryz.isAgg3
 z3:=Tryz.sizeOf3
 v3:=Tryz.zeroValue3
 t4:=Tryz.underlying4
 a4:=Tryz.isAgg4
 z4:=Tryz.sizeOf4
 v4:=Tryz.zeroValue4
 t5:=Tryz.underlying5
 a5:=Tryz.isAgg5
 z5:=Tryz.sizeOf5
 v5:=Tryz.zeroValue5
 t9:=Tryz.underlying9
 a9:=Tryz.isAgg9
 z9:=Tryz.sizeOf9
 v9:=Tryz.zeroValue9
 t21:=Tryz.underlying21
 a21:=Tryz.isAgg21
 z21:=Tryz.sizeOf21
 v21:=Tryz.zeroValue21
 t31:=Tryz.underlying36
 a31:=Tryz.isAgg36
 z31:=Tryz.sizeOf36
 v31:=Tryz.zeroValue36
 t46:=Tryz.underlying160
 a46:=Tryz.isAgg160
 z46:=Tryz.sizeOf160
 v46:=Tryz.zeroValue160
 t51:=Tryz.underlying191
 a51:=Tryz.isAgg191
 z51:=Tryz.sizeOf191
 v51:=Tryz.zeroValue191
 t105:=Tryz.underlying206
 a105:=Tryz.isAgg206
 z105:=Tryz.sizeOf206
 v105:=Tryz.zeroValue206
 t119:=Tryz.underlying219
 a119:=Tryz.isAgg219
 z119:=Tryz.sizeOf219
 t138:=Tryz.underlying221
 a138:=Tryz.isAgg221
 z138:=Tryz.sizeOf221
 v138:=Tryz.zeroValue221
 t139:=Tryz.underlying222
 a139:=Tryz.isAgg222
 z139:=Tryz.sizeOf222
 v139:=Tryz.zeroValue222
 t146:=Tryz.underlying215
 a146:=Tryz.isAgg215
 z146:=Tryz.sizeOf215
 v146:=Tryz.zeroValue215
 g1:=by kernel_rfl
 g3:=by kernel_rfl
 g4:=by kernel_rfl}
open Go.RowKit Go.Lib in
theorem Tryz.strings_Split (s sep:ByteArray) (m:Int) (w:World) (hs:s.size<4294967281) (hm:w.cell? ⟨1,0,none⟩=some (.int .i64 m)) (h1:1≤sep.size) :
  Calls Tryz.prog 90 #[.string s,.string sep] w fun e w' =>
   e=.returned (.slice (some ⟨w.heap.size,0,none⟩) (Lib.countB s sep+1) (Lib.countB s sep+1))∧w'=w.alloc (.cells ((Lib.splitB sep 0 (Lib.countB s sep) s).map Value.string).toArray 9):=Any.strings_Split Tryz.lays146 (by kernel_rfl) s sep m w hs hm h1
def Tryz.lays152_ren:Go.Shelf.Ren:=⟨fun | 152=>175 | 137=>95 | 119=>182 | 224=>170 | 225=>169 | 217=>124 | 266=>160 | n=>n,fun | 9=>9 | 21=>21 | 3=>3 | 4=>4 | 5=>5 | 0=>0 | 46=>160 | n=>n,fun | n=>n⟩
theorem Tryz.lays152:Go.Proofs.Lays.n152 Tryz.prog Tryz.lays152_ren:={
 mixed:=by kernel_rfl
 f119:=Tryz.func182.trans (congrArg some (by kernel_rfl))
 f137:=Tryz.func95.trans (congrArg some (by kernel_rfl))
 f152:=Tryz.func175.trans (congrArg some (by kernel_rfl))
 f217:=Tryz.func124.trans (congrArg some (by kernel_rfl))
 f224:=Tryz.func170.trans (congrArg some (by kernel_rfl))
 f225:=Tryz.func169.trans (congrArg some (by kernel_rfl))
 f266:=Tryz.func160.trans (congrArg some (by kernel_rfl))
 t0:=Tryz.underlying0
 a0:=Tryz.isAgg0
 z0:=Tryz.sizeOf0
 v0:=Tryz.zeroValue0
 t3:=Tryz.underlying3
 a3:=Tryz.isAgg3
 z3:=Tryz.sizeOf3
 v3:=Tryz.zeroValue3
 t4:=Tryz.underlying4
 a4:=Tryz.isAgg4
 z4:=Tryz.sizeOf4
 v4:=Tryz.zeroValue4
 t5:=Tryz.underlying5
 a5:=Tryz.isAgg5
 z5:=Tryz.sizeOf5
 v5:=Tryz.zeroValue5
 t9:=Tryz.underlying9
 a9:=Tryz.isAgg9
 z9:=Tryz.sizeOf9
 v9:=Tryz.zeroValue9
 t21:=Tryz.underlying21
 a21:=Tryz.isAgg21
 z21:=Tryz.sizeOf21
 v21:=Tryz.zeroValue21
 t46:=Tryz.underlying160
 a46:=Tryz.isAgg160
 z46:=Tryz.sizeOf160
 v46:=Tryz.zeroValue160}
open Go.RowKit Go.Lib in
theorem Tryz.strings_IndexRune_ascii (s:ByteArray) (r:Int) (w:World) (h0:0≤r) (h1:r<128) :
  Calls Tryz.prog 175 #[.string s,.int .i32 r] w fun e w'=>e=.returned (.int .i64 (Lib.indexByte s.data.toList r.toNat.toUInt8))∧w'=w:=Any.strings_IndexRune_ascii Tryz.lays152 s r w h0 h1
def Tryz.lays153_ren:Go.Shelf.Ren:=⟨fun | 153=>158 | 152=>175 | 226=>176 | 227=>177 | 228=>178 | 137=>95 | 119=>182 | 224=>170 | 225=>169 | 217=>124 | 266=>160 | n=>n,fun | 9=>9 | 3=>3 | 4=>4 | 5=>5 | 21=>21 | 117=>210 | 116=>209 | 0=>0 | 46=>160 | 124=>218 | n=>n,fun | n=>n⟩
theorem Tryz.lays153:Go.Proofs.Lays.n153 Tryz.prog Tryz.lays153_ren:={
 mixed:=by kernel_rfl
 f119:=Tryz.func182.trans (congrArg some (by kernel_rfl))
 f137:=Tryz.func95.trans (congrArg some (by kernel_rfl))
 f152:=Tryz.func175.trans (congrArg some (by kernel_rfl))
 f153:=Tryz.func158.trans (congrArg some (by kernel_rfl))
 f217:=Tryz.func124.trans (congrArg some (by kernel_rfl))
 f224:=Tryz.func170.trans (congrArg some (by kernel_rfl))
 f225:=Tryz.func169.trans (congrArg some (by kernel_rfl))
 f226:=Tryz.func176.trans (congrArg some (by kernel_rfl))
 f227:=Tryz.func177.trans (congrArg some (by kernel_rfl))
 f228:=Tryz.func178.trans (congrArg some (by kernel_rfl))
 f266:=Tryz.func160.trans (congrArg some (by kernel_rfl))
 t0:=Tryz.underlying0
 a0:=Tryz.isAgg0
 z0:=Tryz.sizeOf0
 v0:=Tryz.zeroValue0
 t3:=Tryz.underlying3
 a3:=Tryz.isAgg3
 z3:=Tryz.sizeOf3
 v3:=Tryz.zeroValue3
 t4:=Tryz.underlying4
 a4:=Tryz.isAgg4
 z4:=Tryz.sizeOf4
 v4:=Tryz.zeroValue4
 t5:=Tryz.underlying5
 a5:=Tryz.isAgg5
 z5:=Tryz.sizeOf5
 v5:=Tryz.zeroValue5
 t9:=Tryz.underlying9
 a9:=Tryz.isAgg9
 z9:=Tryz.sizeOf9
 v9:=Tryz.zeroValue9
 t21:=Tryz.underlying21
 a21:=Tryz.isAgg21
 z21:=Tryz.sizeOf21
 v21:=Tryz.zeroValue21
 t46:=Tryz.underlying160
 a46:=Tryz.isAgg160
 z46:=Tryz.sizeOf160
 v46:=Tryz.zeroValue160
 t116:=Tryz.underlying209
 a116:=Tryz.isAgg209
 z116:=Tryz.sizeOf209
 t117:=Tryz.underlying210
 a117:=Tryz.isAgg210
 z117:=Tryz.sizeOf210
 v117:=Tryz.zeroValue210
 t124:=Tryz.underlying218
 a124:=Tryz.isAgg218
 z124:=Tryz.sizeOf218
 v124:=Tryz.zeroValue218}
open Go.RowKit Go.Lib in
theorem Tryz.strings_IndexAny_long (hv116:∀ w,(zeroValue 209).run Tryz.prog w=.ok (.agg (Array.replicate 256 (.bool false))) w) (s chars:ByteArray) (w:World) (h2:2≤chars.size) (h8:8<s.size) (hs:s.size<4294967281) (hcs:chars.size<4294967281) (hascii:∀ (j:Nat) b,chars.data.toList[j]? = some b→b.toNat<128) :
  Calls Tryz.prog 158 #[.string s,.string chars] w fun e w'=>e=.returned (.int .i64 (Lib.indexAny s.data.toList chars.data.toList))∧w'=((w.alloc (.cells (Lib.setCells chars.data.toList) 209)).alloc (.cells (Lib.setCells chars.data.toList) 209)):=Any.strings_IndexAny_long Tryz.lays153 hv116 (by kernel_rfl) s chars w h2 h8 hs hcs hascii
end Go.Proofs
end
section
namespace Go.Proofs
open Go.Shelf
namespace YtdnhjnlhmfajnaaGreatDoor.G
open Go.RowKit Go.Lib
def two:ByteArray:=⟨#[47,0]⟩
theorem valid_rune (r:Int) (w:World):Calls Tryz.prog 182 #[.int .i32 r] w fun e w'=>e=.returned (.bool (Lib.validRune r))∧w'=w:=Any.utf8_ValidRune Tryz.lays119 r w
theorem index_byte (s:ByteArray) (c:Int) (w:World) :
  Calls Tryz.prog 95 #[.string s,.int .u8 c] w fun e w'=>e=.returned (.int .i64 (Lib.indexByte s.data.toList c.toNat.toUInt8))∧w'=w:=Any.strings_IndexByte Tryz.lays137 s c w
theorem index_rune (s:ByteArray) (r:Int) (w:World) (h0:0≤r) (h1:r<128) :
  Calls Tryz.prog 175 #[.string s,.int .i32 r] w fun e w'=>e=.returned (.int .i64 (Lib.indexByte s.data.toList r.toNat.toUInt8))∧w'=w:=Any.strings_IndexRune_ascii Tryz.lays152 s r w h0 h1
theorem two_size:two.size=2:=rfl
theorem two0:(two[0]'(by decide)).toNat=47:=rfl
theorem two1:(two[1]'(by decide)).toNat=0:=rfl
set_option maxHeartbeats 4000000 in
set_option maxRecDepth 1000000 in
theorem indexRune_err (w:World) :
  Calls Tryz.prog 175 #[.string two,.int .i32 65533] w fun e w'=>e=.returned (.int .i64 (-1))∧Below w.heap.size w w':=by
 have n0:=fun ty=>run_next_ascii (P:=Tryz.prog) w two 0 ty (by decide) (by decide)
 have n1:=fun ty=>run_next_ascii (P:=Tryz.prog) w two 1 ty (by decide) (by decide)
 have n2:=fun ty=>run_next_end (P:=Tryz.prog) w two 2 ty (by decide)
 have c0:=two0
 have c1:=two1
 rw [c0] at n0
 rw [c1] at n1
 clear c0 c1
 go_enter Tryz.func175,Tryz.ntmps175
 go_wp2
 go_loopg [5,6] 2 (fun g _ _ wx=>∃ i:Nat,i+g=2∧wx=w.iter two i)
 case atStart=>exact ⟨0,rfl,rfl⟩
 case round =>
  obtain ⟨i,hig,rfl⟩:=hrel
  cases gk with
  | zero =>
   obtain rfl:i=2:=by omega
   go_wp2
   go_ret
   exact ⟨rfl,(Below.refl _ _).alloc (Nat.le_refl _) _⟩
  | succ g =>
   cases g with
   | zero =>
    obtain rfl:i=1:=by omega
    go_wp2
    go_roundg 0
    case measure=>omega
    case rel=>exact ⟨2,rfl,rfl⟩
   | succ g =>
    obtain rfl:g=0:=by omega
    obtain rfl:i=0:=by omega
    go_wp2
    go_roundg 1
    case measure=>omega
    case rel=>exact ⟨1,rfl,rfl⟩
theorem enc_shape (r:Int) (h0:128≤r):((Utf8.encode r).size=2∧128≤((Utf8.encode r).get! 1).toNat)∨(Utf8.encode r).size=3∨(Utf8.encode r).size=4:=by
 unfold Utf8.encode
 have hc:∀ c:Nat,c=(if Utf8.valid r=true then r.toNat else Utf8.runeError)→128≤c:=by
  intro c hc
  split at hc
  ·omega
  ·subst hc;decide
 generalize (if Utf8.valid r=true then r.toNat else Utf8.runeError)=c at *
 have:=hc c rfl
 dsimp only
 rw [if_neg (by omega)]
 split
 ·left
  refine ⟨rfl,?_⟩
  show 128≤(UInt8.ofNat (128+c % 64)).toNat
  rw [UInt8.toNat_ofNat']
  omega
 ·right
  split
  ·left;rfl
  ·right;rfl
set_option maxHeartbeats 4000000 in
set_option maxRecDepth 1000000 in
theorem indexRune_far2 (r:Int) (b:ByteArray) (x:UInt8) (w:World) (h0:128≤r) (hne:(r == 65533)=false) (hv:Lib.validRune r=true) (hb:Utf8.encode r=b) (hs:(b.size:Int)=2) (hs':1<b.size) (hx:b[1]'hs'=x) (h1:((0:Int) != (x.toNat:Int))=true)
  (hi:Lib.indexByte [] x = -1) :
  Calls Tryz.prog 175 #[.string two,.int .i32 r] w fun e w'=>e=.returned (.int .i64 (-1))∧Below w.heap.size w w':=by
 have htail:(two.extract 2 2).data.toList=[]:=rfl
 have ht1:=two1
 have ht2:=two_size
 have hw2:IntKind.i64.wrap 2=2:=by decide
 have hback:((x.toNat:Int)).toNat.toUInt8=x:=by simp
 go_enter Tryz.func175,Tryz.ntmps175
 go_wp2_with (go_at_call 182;refine (valid_rune _ _).mono ?_;rintro e w' ⟨rfl,rfl⟩;rw [hv])
 go_step3
 go_wp2
 go_loop [9] (fun i=>i=.int .i64 1) (fun _=>0)
 case atStart=>exact rfl
 case round =>
  subst hrel
  go_wp2
  go_step3
  go_wp2
  go_quiet (fail)
  go_wp2
  go_quiet ((go_at_call 95;exact qcall (index_byte _ _ _)))
  go_wp2
  simp (config:={zetaDelta:=true}) only [Exit.noGoto_ret,Exit.inBlock,Exit.then]
  go_ret
  exact ⟨rfl,bdrewN (Below.refl _ _) _⟩
set_option maxHeartbeats 4000000 in
set_option maxRecDepth 1000000 in
theorem indexRune_far3 (r:Int) (b:ByteArray) (w:World) (h0:128≤r) (hne:(r == 65533)=false) (hv:Lib.validRune r=true) (hb:Utf8.encode r=b) (h3:3≤b.size) (h4:b.size≤4) :
  Calls Tryz.prog 175 #[.string two,.int .i32 r] w fun e w'=>e=.returned (.int .i64 (-1))∧Below w.heap.size w w':=by
 have ht2:=two_size
 go_enter Tryz.func175,Tryz.ntmps175
 go_wp2_with (go_at_call 182;refine (valid_rune _ _).mono ?_;rintro e w' ⟨rfl,rfl⟩;rw [hv])
 go_step3
 go_wp2
 go_loop [9] (fun i=>i=.int .i64 (b.size - 1)) (fun _=>0)
 case atStart=>exact rfl
 case round =>
  subst hrel
  go_wp2
  go_ret
  exact ⟨rfl,Below.refl _ _⟩
theorem enc_get (r:Int) (h:1<(Utf8.encode r).size):(Utf8.encode r).get! 1=(Utf8.encode r)[1]'h:=by
 simp [ByteArray.get!,getElem!_pos,h]
 rfl
theorem indexRune_none (r:Int) (w:World) (h0:128≤r) (hv:Lib.validRune r=true) :
  Calls Tryz.prog 175 #[.string two,.int .i32 r] w fun e w'=>e=.returned (.int .i64 (-1))∧Below w.heap.size w w':=by
 by_cases he:r=65533
 ·subst he;exact indexRune_err w
 have hne:(r == 65533)=false:=beq_eq_false_iff_ne.2 he
 rcases enc_shape r h0 with ⟨h2,hx⟩ | h | h
 ·have h1:1<(Utf8.encode r).size:=by omega
  rw [enc_get r h1] at hx
  exact indexRune_far2 r _ _ w h0 hne hv rfl (by omega) h1 rfl (bne_iff_ne.2 (by omega)) rfl
 ·exact indexRune_far3 r _ w h0 hne hv rfl (by omega) (by omega)
 ·exact indexRune_far3 r _ w h0 hne hv rfl (by omega) (by omega)
theorem decode_far (s:ByteArray) (i:Nat) (hi:i<s.size) (hx:128≤(s[i]'hi).toNat) :
  128≤(Utf8.decode s i).1∧1≤(Utf8.decode s i).2∧i+(Utf8.decode s i).2≤s.size ∧
   ∀ j b,i≤j→j<i+(Utf8.decode s i).2→s.data.toList[j]? = some b→128≤b.toNat:=by
 have hg:∀ k (hk:k<s.size),s.get! k=s[k]'hk:=fun k hk=>by
  simp [ByteArray.get!,getElem!_pos,hk]
  rfl
 have hl:∀ k b,s.data.toList[k]? = some b→k<s.size∧(s.get! k)=b:=by
  intro k b hb
  have hk:k<s.size:=by
   have:=(List.getElem?_eq_some_iff.1 hb).1
   rw [Array.length_toList] at this
   exact this
  refine ⟨hk,?_⟩
  rw [hg k hk]
  have:=Lib.data_getElem? s k hk
  rw [this] at hb
  exact Option.some.inj hb
 rw [Lib.decode_at]
 rw [← hg i hi] at hx
 generalize hb0:(s.get! i).toNat=b0 at *
 have c:=Lib.decodeN_conts (s.size - i) b0 (s.get! (i+1)).toNat (s.get! (i+2)).toNat (s.get! (i+3)).toNat
 have g1:=Lib.decodeN_ge1 (s.size - i) b0 (s.get! (i+1)).toNat (s.get! (i+2)).toNat (s.get! (i+3)).toNat
 have gr:128≤(Lib.decodeN (s.size - i) b0 (s.get! (i+1)).toNat (s.get! (i+2)).toNat (s.get! (i+3)).toNat).1:=by
  unfold Lib.decodeN
  rw [if_neg (by omega)]
  repeat' split
  all_goals simp only
  all_goals omega
 generalize hd:Lib.decodeN (s.size - i) b0 (s.get! (i+1)).toNat (s.get! (i+2)).toNat (s.get! (i+3)).toNat=d at *
 obtain ⟨c2,c3,c4,c5⟩:=c
 refine ⟨gr,g1,?_,?_⟩
 ·omega
 ·intro j b h1 h2 hb
  obtain ⟨hk,hgb⟩:=hl j b hb
  rw [← hgb]
  have h:j=i∨j=i+1∨j=i+2∨j=i+3:=by omega
  rcases h with rfl | rfl | rfl | rfl
  ·omega
  ·have:=(c2 (by omega)).1;omega
  ·have:=(c3 (by omega)).1;omega
  ·have:=(c4 (by omega)).1;omega
theorem rune_ok (s:ByteArray) (i:Nat):Lib.validRune ((Utf8.decode s i).1:Int)=true:=by
 rw [Lib.decode_at]
 have h0:=UInt8.toNat_lt (s.get! i)
 generalize (s.get! i).toNat=b0 at *
 have:(Lib.decodeN (s.size - i) b0 (s.get! (i+1)).toNat (s.get! (i+2)).toNat (s.get! (i+3)).toNat).1<55296∨(57343<(Lib.decodeN (s.size - i) b0 (s.get! (i+1)).toNat (s.get! (i+2)).toNat (s.get! (i+3)).toNat).1∧(Lib.decodeN (s.size - i) b0 (s.get! (i+1)).toNat (s.get! (i+2)).toNat (s.get! (i+3)).toNat).1≤1114111):=by
  unfold Lib.decodeN
  repeat' split
  all_goals simp only
  all_goals omega
 generalize (Lib.decodeN (s.size - i) b0 (s.get! (i+1)).toNat (s.get! (i+2)).toNat (s.get! (i+3)).toNat).1=d at *
 unfold Lib.validRune
 simp
 omega
theorem noAny_far (s:ByteArray) (i n:Nat) (h:Lib.NoAny s.data.toList two.data.toList i) (hf:∀ j b,i≤j→j<i+n→s.data.toList[j]? = some b→128≤b.toNat) :
  Lib.NoAny s.data.toList two.data.toList (i+n):=by
 intro j b hj hb
 by_cases hji:j<i
 ·exact h j b hji hb
 ·have h128:=hf j b (by omega) hj hb
  show ([47,0]:List UInt8).contains b=false
  have h1:b≠47:=by intro e;subst e;simp at h128
  have h2:b≠0:=by intro e;subst e;simp at h128
  simp [h1,h2]
theorem use_set (n:Int) (w:World):Calls Tryz.prog 176 #[.int .i64 n] w fun e w'=>e=.returned (.bool (decide (8<n)))∧w'=w:=by
 go_enter Tryz.func176,Tryz.ntmps176
 go_wp2
 go_ret
 exact ⟨rfl,rfl⟩
set_option maxHeartbeats 4000000 in
set_option maxRecDepth 1000000 in
theorem indexAny_short (s:ByteArray) (w:World) (h8:s.size≤8) :
  Calls Tryz.prog 158 #[.string s,.string two] w fun e w'=>e=.returned (.int .i64 (Lib.indexAny s.data.toList two.data.toList))∧Below w.heap.size w w':=by
 have ht2:=two_size
 have hemp:two.toList.isEmpty=false:=by rw [Lib.toList_data];rfl
 have h8z:decide ((8:Int)<(s.size:Int))=false:=decide_eq_false (by omega)
 go_enter Tryz.func158,Tryz.ntmps158
 go_wp2_with (go_at_call 176;refine (use_set _ _).mono ?_;rintro e w' ⟨rfl,hw⟩;rw [hw,h8z])
 go_loopg [9,10] s.size (fun g _ _ wx=>∃ i:Nat,i≤s.size∧s.size - i≤g∧Hid (wx.heap[w.heap.size]? = some (.stringIter s i))∧Below w.heap.size w wx∧Hid (Lib.NoAny s.data.toList two.data.toList i))
 case atStart=>exact ⟨0,by omega,by omega,Lib.hid (World.iter_heap w s 0),(Below.refl _ _).alloc (Nat.le_refl _) _,Lib.hid (Lib.NoAny.zero _ _)⟩
 case round =>
  obtain ⟨i,hi,hig,HI,hb,HN⟩:=hrel
  have hsz:w.heap.size≤wr.heap.size:=hb.size
  by_cases hlt:i<s.size
  ·have hnx:=fun ty=>run_next_blk (P:=Tryz.prog) wr w.heap.size s i ty HI.out hlt
   obtain ⟨g,rfl⟩:∃ g,gk=g+1:=⟨gk - 1,by omega⟩
   have hxl:=Lib.data_getElem? s i hlt
   have hwlt:w.heap.size<wr.heap.size:=(Array.getElem?_eq_some_iff.1 HI.out).1
   by_cases h128:(s[i]'hlt).toNat<128
   ·have hd:=decode_ascii s i hlt h128
    rw [hd] at hnx
    clear hd
    have hback:(((s[i]'hlt).toNat:Int)).toNat.toUInt8=s[i]'hlt:=by simp
    have hba:=contains_iff_indexByte two.data.toList (s[i]'hlt)
    cases hin:two.data.toList.contains (s[i]'hlt)
    ·rw [hin] at hba
     have hlt0:¬ ((0:Int)≤Lib.indexByte two.data.toList (s[i]'hlt)):=of_decide_eq_false hba.symm
     have HN1:=Lib.hid (HN.out.succ hxl hin)
     have HH:=Lib.hid (World.putObj_heap_same (w:=wr) (r:=w.heap.size) (o:=.stringIter s (i+1)) hwlt)
     clear hba HN hxl hin
     generalize hx:s[i]'hlt=x at *
     clear hx
     go_wp2_with (go_at_call 175;refine (index_rune _ _ _ (by omega) (by omega)).mono ?_;rintro e w' ⟨rfl,hw⟩;rw [hw,hback])
     go_roundg g
     case measure=>omega
     case rel=>exact ⟨i+1,by omega,by omega,HH,bput hb (Nat.le_refl _) _,HN1⟩
    ·rw [hin] at hba
     have hge0:(0:Int)≤Lib.indexByte two.data.toList (s[i]'hlt):=of_decide_eq_true hba.symm
     have HR:=Lib.hid (indexAny_hit HN.out hxl hin)
     clear hba HN hxl hin
     generalize hx:s[i]'hlt=x at *
     clear hx
     go_wp2_with (go_at_call 175;refine (index_rune _ _ _ (by omega) (by omega)).mono ?_;rintro e w' ⟨rfl,hw⟩;rw [hw,hback])
     go_ret
     exact ⟨by rw [HR.out];rfl,bput hb (Nat.le_refl _) _⟩
   ·obtain ⟨d1,d2,d3,d4⟩:=decode_far s i hlt (by omega)
    have hv:=rune_ok s i
    have HN1:=Lib.hid (noAny_far s i _ HN.out d4)
    have HH:=Lib.hid (World.putObj_heap_same (w:=wr) (r:=w.heap.size) (o:=.stringIter s (i+(Utf8.decode s i).2)) hwlt)
    clear d4 hxl HN h128
    generalize (Utf8.decode s i).1=r at *
    generalize (Utf8.decode s i).2=wd at *
    have hB2:=bput hb (Nat.le_refl _) (.stringIter s (i+wd))
    go_wp2_with (go_at_call 175;refine (indexRune_none _ _ (by omega) hv).mono ?_;rintro e w' ⟨rfl,hw⟩)
    go_roundg g
    case measure=>omega
    case rel=>exact ⟨i+wd,by omega,by omega,Lib.hid ((hw.block _ (by simpa [World.putObj] using hwlt)).trans HH.out),bstep hB2 (by simpa [World.putObj] using hsz) hw,HN1⟩
  ·have hnx:=fun ty=>run_next_stop (P:=Tryz.prog) wr w.heap.size s i ty HI.out hlt
   obtain rfl:i=s.size:=by omega
   go_wp2
   go_ret
   exact ⟨by rw [Lib.indexAny_none (by rw [← Lib.size_eq];exact HN.out)];rfl,hb⟩
theorem info_as:(Tryz.prog.info? 209).map (fun i=>(i.zero,i.size))=some (some (.agg (Array.replicate 256 (.bool false))),256):=by kernel_rfl
theorem indexAny_two (s:ByteArray) (w:World) (hs:s.size<4294967281) :
  Calls Tryz.prog 158 #[.string s,.string two] w fun e w'=>e=.returned (.int .i64 (Lib.indexAny s.data.toList two.data.toList))∧Below w.heap.size w w':=by
 by_cases h8:s.size≤8
 ·exact indexAny_short s w h8
 ·refine (Any.strings_IndexAny_long Tryz.lays153 (zero_of_info info_as).1 (zero_of_info info_as).2 s two w (by decide) (by omega) hs (by decide) ?_).mono fun e w' ⟨h1,h2⟩=>⟨h1,?_⟩
  ·intro j b hb
   have:b=47∨b=0:=by
    have hm:=List.mem_of_getElem? hb
    simpa [two] using hm
   rcases this with rfl | rfl <;> decide
  ·rw [h2]
   exact ((Below.refl _ _).alloc (Nat.le_refl _) _).alloc (by simp) _
theorem containsAny_two (s:ByteArray) (w:World) (hs:s.size<4294967281) :
  Calls Tryz.prog 121 #[.string s,.string two] w fun e w'=>e=.returned (.bool (s.data.toList.any fun b=>b == 47 || b == 0))∧Below w.heap.size w w':=by
 have he:(s.data.toList.any fun b=>b == 47 || b == 0)=decide (0≤Lib.indexAny s.data.toList two.data.toList):=by
  show _=decide (0≤Lib.indexAny s.data.toList [47,0])
  generalize s.data.toList=l
  induction l with
  | nil=>rfl
  | cons b l ih =>
   have hge:=Lib.indexAny_ge [47,0] l
   have hc:([47,0]:List UInt8).contains b=(b == 47 || b == 0):=by rw [List.contains_cons,List.contains_cons];simp
   rw [List.any_cons,ih,Lib.indexAny,hc]
   cases (b == 47 || b == 0)
   ·simp only [Bool.false_or,Bool.false_eq_true,if_false]
    by_cases h:Lib.indexAny l [47,0] = -1
    ·rw [h];rfl
    ·rw [if_neg (by simpa using h),decide_eq_decide];omega
   ·simp
 rw [he]
 go_enter Tryz.func121,Tryz.ntmps121
 go_wp2_with (go_at_call 158;refine (indexAny_two _ _ hs).mono ?_;rintro e w' ⟨rfl,hb⟩)
 go_ret
 exact ⟨rfl,hb⟩
end YtdnhjnlhmfajnaaGreatDoor.G
end Go.Proofs
end
