/-
  DERIVED: THE SHELF's CONTRACTS AT THIS DUMP, IN PLAIN WORDS (tools/lay-plain.mjs out of 'TryzShelf.lean', which tools/lay-shelf.mjs wrote): THE SAME DECLARATIONS UNDER THE SAME NAMES: 'import', 'namespace', 'open', 'def', 'theorem' AND NOTHING ELSE: no command of the shelf's: FOR A HAND-IN. Each laying: the table of numbers ('.._ren') and one theorem, a field a fact of the dump's own or the kernel's comparison; each contract: ONE APPLICATION.
-/
import Derived.Shelf.Strings.Builder1
import Derived.Shelf.Strings.Builder2
import Derived.Shelf.Strings.Trim
import Derived.Shelf.Small.Utf8
import Derived.Shelf.Small.Strs
import Derived.Shelf.Strings.BuilderF
import Derived.Shelf.Utf8.RuneCount
import Derived.Shelf.Strconv.Atoi
import Derived.Shelf.Strconv.Itoa0
import Derived.Shelf.Strconv.Itoa1
import Derived.Shelf.LaysM
import Derived.Shelf.Strconv.Itoa2
import Derived.Shelf.Strconv.Itoa3
import Derived.Shelf.Strconv.AtoiErrFast
import Derived.Shelf.Strconv.ParseIntEmpty
import Derived.Shelf.Strconv.AtoiFail
import Derived.Shelf.Strconv.Clone
import Derived.Shelf.Strconv.SyntaxError
import Derived.Shelf.LaysC
import Derived.Shelf.Strconv.ToError
import Derived.Shelf.Strconv.Lower
import Derived.Shelf.Strconv.ParseUint10
import Derived.Shelf.Strconv.ParseUint10Empty
import Derived.Shelf.Strconv.ParseUint10Any
import Derived.Shelf.Strconv.ParseInt10
import Derived.Shelf.Strconv.AtoiLong
import Derived.Shelf.Strconv.AtoiInnerAll
import Derived.Shelf.Strconv.RangeError
import Derived.Shelf.Strconv.ToErrorRange
import Derived.Shelf.Strconv.AtoiAll
import Derived.Shelf.Strconv.ErrVarAll
import Derived.Shelf.Strings.Search1
import Derived.Shelf.Strings.Search2
import Derived.Shelf.Strings.Search3
import Derived.Shelf.Strings.Count
import Derived.Shelf.Strings.Shaped
import Derived.Shelf.Strings.Prefix
import Derived.Shelf.Strings.Split
import Derived.Shelf.Strings.SplitShaped
import Derived.Shelf.Unicode.Decode
import Derived.Shelf.Strings.Runes
import Derived.Shelf.Strings.RuneCount
import Derived.Shelf.Strings.AsciiSet
import Derived.Shelf.Strings.Explode
import Derived.Shelf.Bits.Mul64
import Derived.Shelf.Strings.Repeat
import Derived.Shelf.Unicode.DecodeSlow
import Derived.Shelf.Unicode.DecodeAny
import Derived.Shelf.Unicode.DecodeLast
import Derived.Test.YtoecgpemlfoogaaGreatDoorProg
namespace Go.Proofs
open Go.Shelf
def Tryz.lays170_ren:Go.Shelf.Ren:=⟨fun | 170=>62 | n=>n,fun | 70=>73 | 3=>3 | 0=>0 | 72=>75 | 37=>50 | 5=>5 | n=>n,fun | n=>n⟩
theorem Tryz.lays170:Go.Proofs.Lays.n170 Tryz.prog Tryz.lays170_ren:={
  mixed:=by kernel_rfl
  f170:=Tryz.func62.trans (congrArg some (by kernel_rfl))
  t0:=Tryz.underlying0
  a0:=Tryz.isAgg0
  z0:=Tryz.sizeOf0
  v0:=Tryz.zeroValue0
  t3:=Tryz.underlying3
  a3:=Tryz.isAgg3
  z3:=Tryz.sizeOf3
  v3:=Tryz.zeroValue3
  t37:=Tryz.underlying50
  a37:=Tryz.isAgg50
  z37:=Tryz.sizeOf50
  v37:=Tryz.zeroValue50
  t70:=Tryz.underlying73
  a70:=Tryz.isAgg73
  z70:=Tryz.sizeOf73
  v70:=Tryz.zeroValue73
  t72:=Tryz.underlying75
  a72:=Tryz.isAgg75
  z72:=Tryz.sizeOf75
  v72:=Tryz.zeroValue75 }
open Go.RowKit in
theorem Tryz.Builder_Len (B b:Nat) (bs:List Value) (w:World) (h:Lib.IsBuilder 75 5 B b bs w) :
    Calls Tryz.prog 62 #[.pointer (some ⟨b,0,none⟩)] w fun e w'=>e = .returned (.int .i64 bs.length) ∧ w' = w:=Any.Builder_Len Tryz.lays170 B b bs w h
def Tryz.lays169_ren:Go.Shelf.Ren:=⟨fun | 169=>63 | n=>n,fun | 70=>73 | 9=>9 | 0=>0 | 72=>75 | 37=>50 | 127=>96 | 3=>3 | 5=>5 | n=>n,fun | n=>n⟩
theorem Tryz.lays169:Go.Proofs.Lays.n169 Tryz.prog Tryz.lays169_ren:={
  mixed:=by kernel_rfl
  f169:=Tryz.func63.trans (congrArg some (by kernel_rfl))
  t0:=Tryz.underlying0
  a0:=Tryz.isAgg0
  z0:=Tryz.sizeOf0
  v0:=Tryz.zeroValue0
  t3:=Tryz.underlying3
  a3:=Tryz.isAgg3
  z3:=Tryz.sizeOf3
  v3:=Tryz.zeroValue3
  t9:=Tryz.underlying9
  a9:=Tryz.isAgg9
  z9:=Tryz.sizeOf9
  v9:=Tryz.zeroValue9
  t37:=Tryz.underlying50
  a37:=Tryz.isAgg50
  z37:=Tryz.sizeOf50
  v37:=Tryz.zeroValue50
  t70:=Tryz.underlying73
  a70:=Tryz.isAgg73
  z70:=Tryz.sizeOf73
  v70:=Tryz.zeroValue73
  t72:=Tryz.underlying75
  a72:=Tryz.isAgg75
  z72:=Tryz.sizeOf75
  v72:=Tryz.zeroValue75
  t127:=Tryz.underlying96
  a127:=Tryz.isAgg96
  z127:=Tryz.sizeOf96
  v127:=Tryz.zeroValue96 }
theorem Tryz.Builder_Extra_169:Builder.Extra Tryz.prog Tryz.lays169_ren:={
  sizeBuilder:=by kernel_rfl
  liesBuilder:=by kernel_rfl
  t5:=Tryz.underlying5
  a5:=Tryz.isAgg5
  z5:=Tryz.sizeOf5
  v5:=Tryz.zeroValue5
  infoByte:=by kernel_rfl
  cellsByte:=by kernel_rfl
  sizeByte:=by kernel_rfl
  neB5:=by decide }
open Go.RowKit in
theorem Tryz.Builder_String_any (B b:Nat) (l:List UInt8) (w:World) (h:Lib.IsBuilder 75 5 B b (Lib.byteCells l) w) (hBw:B ≤ w.heap.size) :
    Calls Tryz.prog 63 #[.pointer (some ⟨b,0,none⟩)] w fun e w'=>e = .returned (.string ⟨l.toArray⟩) ∧ Below B w w':=Any.Builder_String_any Tryz.lays169 Tryz.Builder_Extra_169 B b l w h hBw
def Tryz.lays161_ren:Go.Shelf.Ren:=⟨fun | 161=>47 | 231=>72 | 227=>73 | 233=>74 | 235=>75 | 228=>95 | 197=>96 | 151=>97 | 260=>112 | 152=>113 | 137=>56 | 119=>128 | 224=>129 | 225=>130 | 217=>81 | 266=>102 | n=>n,fun | 9=>9 | 4=>4 | 3=>3 | 5=>5 | 117=>90 | 116=>89 | 0=>0 | 124=>93 | 105=>104 | 21=>21 | 119=>131 | 46=>82 | 139=>134 | 138=>133 | n=>n,fun | 3=>2 | 4=>3 | n=>n⟩
theorem Tryz.lays161:Go.Proofs.Lays.n161 Tryz.prog Tryz.lays161_ren:={
  mixed:=by kernel_rfl
  f119:=Tryz.func128.trans (congrArg some (by kernel_rfl))
  f137:=Tryz.func56.trans (congrArg some (by kernel_rfl))
  f151:=Tryz.func97.trans (congrArg some (by kernel_rfl))
  f152:=Tryz.func113.trans (congrArg some (by kernel_rfl))
  f161:=Tryz.func47.trans (congrArg some (by kernel_rfl))
  f197:=Tryz.func96.trans (congrArg some (by kernel_rfl))
  f217:=Tryz.func81.trans (congrArg some (by kernel_rfl))
  f224:=Tryz.func129.trans (congrArg some (by kernel_rfl))
  f225:=Tryz.func130.trans (congrArg some (by kernel_rfl))
  f227:=Tryz.func73.trans (congrArg some (by kernel_rfl))
  f228:=Tryz.func95.trans (congrArg some (by kernel_rfl))
  f231:=Tryz.func72.trans (congrArg some (by kernel_rfl))
  f233:=Tryz.func74.trans (congrArg some (by kernel_rfl))
  f235:=Tryz.func75.trans (congrArg some (by kernel_rfl))
  f260:=Tryz.func112.trans (congrArg some (by kernel_rfl))
  f266:=Tryz.func102.trans (congrArg some (by kernel_rfl))
  t0:=Tryz.underlying0
  a0:=Tryz.isAgg0
  z0:=Tryz.sizeOf0
  v0:=Tryz.zeroValue0
  t3:=Tryz.underlying3
  a3:=Tryz.isAgg3
  z3:=Tryz.sizeOf3
  v3:=Tryz.zeroValue3
  t4:=Tryz.underlying4
  a4:=Tryz.isAgg4
  z4:=Tryz.sizeOf4
  v4:=Tryz.zeroValue4
  t5:=Tryz.underlying5
  a5:=Tryz.isAgg5
  z5:=Tryz.sizeOf5
  v5:=Tryz.zeroValue5
  t9:=Tryz.underlying9
  a9:=Tryz.isAgg9
  z9:=Tryz.sizeOf9
  v9:=Tryz.zeroValue9
  t21:=Tryz.underlying21
  a21:=Tryz.isAgg21
  z21:=Tryz.sizeOf21
  v21:=Tryz.zeroValue21
  t46:=Tryz.underlying82
  a46:=Tryz.isAgg82
  z46:=Tryz.sizeOf82
  v46:=Tryz.zeroValue82
  t105:=Tryz.underlying104
  a105:=Tryz.isAgg104
  z105:=Tryz.sizeOf104
  v105:=Tryz.zeroValue104
  t116:=Tryz.underlying89
  a116:=Tryz.isAgg89
  z116:=Tryz.sizeOf89
  t117:=Tryz.underlying90
  a117:=Tryz.isAgg90
  z117:=Tryz.sizeOf90
  v117:=Tryz.zeroValue90
  t119:=Tryz.underlying131
  a119:=Tryz.isAgg131
  z119:=Tryz.sizeOf131
  t124:=Tryz.underlying93
  a124:=Tryz.isAgg93
  z124:=Tryz.sizeOf93
  v124:=Tryz.zeroValue93
  t138:=Tryz.underlying133
  a138:=Tryz.isAgg133
  z138:=Tryz.sizeOf133
  v138:=Tryz.zeroValue133
  t139:=Tryz.underlying134
  a139:=Tryz.isAgg134
  z139:=Tryz.sizeOf134
  v139:=Tryz.zeroValue134
  g3:=by kernel_rfl
  g4:=by kernel_rfl }
open Go.RowKit in
theorem Tryz.strings_TrimLeft_one (s:ByteArray) (c:UInt8) (hc:c.toNat < 128) (w:World) :
    Calls Tryz.prog 47 #[.string s,.string ⟨#[c]⟩] w fun e w'=>e = .returned (.string ⟨(Lib.trimLeftB s.data.toList c).toArray⟩) ∧ w' = w:=Any.strings_TrimLeft_one Tryz.lays161 s c hc w
def Tryz.lays162_ren:Go.Shelf.Ren:=⟨fun | 162=>77 | 232=>82 | 227=>73 | 234=>83 | 236=>84 | 228=>95 | 271=>103 | 151=>97 | 120=>117 | 197=>96 | 152=>113 | 260=>112 | 137=>56 | 119=>128 | 224=>129 | 225=>130 | 217=>81 | 266=>102 | n=>n,fun | 9=>9 | 4=>4 | 3=>3 | 5=>5 | 117=>90 | 116=>89 | 0=>0 | 124=>93 | 21=>21 | 105=>104 | 46=>82 | 119=>131 | 139=>134 | 138=>133 | n=>n,fun | 3=>2 | 4=>3 | n=>n⟩
theorem Tryz.lays162:Go.Proofs.Lays.n162 Tryz.prog Tryz.lays162_ren:={
  mixed:=by kernel_rfl
  f119:=Tryz.func128.trans (congrArg some (by kernel_rfl))
  f120:=Tryz.func117.trans (congrArg some (by kernel_rfl))
  f137:=Tryz.func56.trans (congrArg some (by kernel_rfl))
  f151:=Tryz.func97.trans (congrArg some (by kernel_rfl))
  f152:=Tryz.func113.trans (congrArg some (by kernel_rfl))
  f162:=Tryz.func77.trans (congrArg some (by kernel_rfl))
  f197:=Tryz.func96.trans (congrArg some (by kernel_rfl))
  f217:=Tryz.func81.trans (congrArg some (by kernel_rfl))
  f224:=Tryz.func129.trans (congrArg some (by kernel_rfl))
  f225:=Tryz.func130.trans (congrArg some (by kernel_rfl))
  f227:=Tryz.func73.trans (congrArg some (by kernel_rfl))
  f228:=Tryz.func95.trans (congrArg some (by kernel_rfl))
  f232:=Tryz.func82.trans (congrArg some (by kernel_rfl))
  f234:=Tryz.func83.trans (congrArg some (by kernel_rfl))
  f236:=Tryz.func84.trans (congrArg some (by kernel_rfl))
  f260:=Tryz.func112.trans (congrArg some (by kernel_rfl))
  f266:=Tryz.func102.trans (congrArg some (by kernel_rfl))
  f271:=Tryz.func103.trans (congrArg some (by kernel_rfl))
  t0:=Tryz.underlying0
  a0:=Tryz.isAgg0
  z0:=Tryz.sizeOf0
  v0:=Tryz.zeroValue0
  t3:=Tryz.underlying3
  a3:=Tryz.isAgg3
  z3:=Tryz.sizeOf3
  v3:=Tryz.zeroValue3
  t4:=Tryz.underlying4
  a4:=Tryz.isAgg4
  z4:=Tryz.sizeOf4
  v4:=Tryz.zeroValue4
  t5:=Tryz.underlying5
  a5:=Tryz.isAgg5
  z5:=Tryz.sizeOf5
  v5:=Tryz.zeroValue5
  t9:=Tryz.underlying9
  a9:=Tryz.isAgg9
  z9:=Tryz.sizeOf9
  v9:=Tryz.zeroValue9
  t21:=Tryz.underlying21
  a21:=Tryz.isAgg21
  z21:=Tryz.sizeOf21
  v21:=Tryz.zeroValue21
  t46:=Tryz.underlying82
  a46:=Tryz.isAgg82
  z46:=Tryz.sizeOf82
  v46:=Tryz.zeroValue82
  t105:=Tryz.underlying104
  a105:=Tryz.isAgg104
  z105:=Tryz.sizeOf104
  v105:=Tryz.zeroValue104
  t116:=Tryz.underlying89
  a116:=Tryz.isAgg89
  z116:=Tryz.sizeOf89
  t117:=Tryz.underlying90
  a117:=Tryz.isAgg90
  z117:=Tryz.sizeOf90
  v117:=Tryz.zeroValue90
  t119:=Tryz.underlying131
  a119:=Tryz.isAgg131
  z119:=Tryz.sizeOf131
  t124:=Tryz.underlying93
  a124:=Tryz.isAgg93
  z124:=Tryz.sizeOf93
  v124:=Tryz.zeroValue93
  t138:=Tryz.underlying133
  a138:=Tryz.isAgg133
  z138:=Tryz.sizeOf133
  v138:=Tryz.zeroValue133
  t139:=Tryz.underlying134
  a139:=Tryz.isAgg134
  z139:=Tryz.sizeOf134
  v139:=Tryz.zeroValue134
  g3:=by kernel_rfl
  g4:=by kernel_rfl }
open Go.RowKit in
theorem Tryz.strings_TrimRight_one (s:ByteArray) (c:UInt8) (hc:c.toNat < 128) (w:World) (hs:s.size ≤ 9223372036854775807) :
    Calls Tryz.prog 77 #[.string s,.string ⟨#[c]⟩] w fun e w'=>e = .returned (.string ⟨(Lib.trimRightB s.data.toList c).toArray⟩) ∧ w' = w:=Any.strings_TrimRight_one Tryz.lays162 s c hc w hs
def Tryz.lays160_ren:Go.Shelf.Ren:=⟨fun | 160=>57 | 232=>82 | 231=>72 | 227=>73 | 234=>83 | 233=>74 | 236=>84 | 235=>75 | 228=>95 | 271=>103 | 151=>97 | 197=>96 | 120=>117 | 152=>113 | 260=>112 | 137=>56 | 119=>128 | 224=>129 | 225=>130 | 217=>81 | 266=>102 | n=>n,fun | 9=>9 | 4=>4 | 3=>3 | 5=>5 | 117=>90 | 116=>89 | 0=>0 | 124=>93 | 21=>21 | 105=>104 | 46=>82 | 119=>131 | 139=>134 | 138=>133 | n=>n,fun | 3=>2 | 4=>3 | n=>n⟩
theorem Tryz.lays160:Go.Proofs.Lays.n160 Tryz.prog Tryz.lays160_ren:={
  mixed:=by kernel_rfl
  f119:=Tryz.func128.trans (congrArg some (by kernel_rfl))
  f120:=Tryz.func117.trans (congrArg some (by kernel_rfl))
  f137:=Tryz.func56.trans (congrArg some (by kernel_rfl))
  f151:=Tryz.func97.trans (congrArg some (by kernel_rfl))
  f152:=Tryz.func113.trans (congrArg some (by kernel_rfl))
  f160:=Tryz.func57.trans (congrArg some (by kernel_rfl))
  f197:=Tryz.func96.trans (congrArg some (by kernel_rfl))
  f217:=Tryz.func81.trans (congrArg some (by kernel_rfl))
  f224:=Tryz.func129.trans (congrArg some (by kernel_rfl))
  f225:=Tryz.func130.trans (congrArg some (by kernel_rfl))
  f227:=Tryz.func73.trans (congrArg some (by kernel_rfl))
  f228:=Tryz.func95.trans (congrArg some (by kernel_rfl))
  f231:=Tryz.func72.trans (congrArg some (by kernel_rfl))
  f232:=Tryz.func82.trans (congrArg some (by kernel_rfl))
  f233:=Tryz.func74.trans (congrArg some (by kernel_rfl))
  f234:=Tryz.func83.trans (congrArg some (by kernel_rfl))
  f235:=Tryz.func75.trans (congrArg some (by kernel_rfl))
  f236:=Tryz.func84.trans (congrArg some (by kernel_rfl))
  f260:=Tryz.func112.trans (congrArg some (by kernel_rfl))
  f266:=Tryz.func102.trans (congrArg some (by kernel_rfl))
  f271:=Tryz.func103.trans (congrArg some (by kernel_rfl))
  t0:=Tryz.underlying0
  a0:=Tryz.isAgg0
  z0:=Tryz.sizeOf0
  v0:=Tryz.zeroValue0
  t3:=Tryz.underlying3
  a3:=Tryz.isAgg3
  z3:=Tryz.sizeOf3
  v3:=Tryz.zeroValue3
  t4:=Tryz.underlying4
  a4:=Tryz.isAgg4
  z4:=Tryz.sizeOf4
  v4:=Tryz.zeroValue4
  t5:=Tryz.underlying5
  a5:=Tryz.isAgg5
  z5:=Tryz.sizeOf5
  v5:=Tryz.zeroValue5
  t9:=Tryz.underlying9
  a9:=Tryz.isAgg9
  z9:=Tryz.sizeOf9
  v9:=Tryz.zeroValue9
  t21:=Tryz.underlying21
  a21:=Tryz.isAgg21
  z21:=Tryz.sizeOf21
  v21:=Tryz.zeroValue21
  t46:=Tryz.underlying82
  a46:=Tryz.isAgg82
  z46:=Tryz.sizeOf82
  v46:=Tryz.zeroValue82
  t105:=Tryz.underlying104
  a105:=Tryz.isAgg104
  z105:=Tryz.sizeOf104
  v105:=Tryz.zeroValue104
  t116:=Tryz.underlying89
  a116:=Tryz.isAgg89
  z116:=Tryz.sizeOf89
  t117:=Tryz.underlying90
  a117:=Tryz.isAgg90
  z117:=Tryz.sizeOf90
  v117:=Tryz.zeroValue90
  t119:=Tryz.underlying131
  a119:=Tryz.isAgg131
  z119:=Tryz.sizeOf131
  t124:=Tryz.underlying93
  a124:=Tryz.isAgg93
  z124:=Tryz.sizeOf93
  v124:=Tryz.zeroValue93
  t138:=Tryz.underlying133
  a138:=Tryz.isAgg133
  z138:=Tryz.sizeOf133
  v138:=Tryz.zeroValue133
  t139:=Tryz.underlying134
  a139:=Tryz.isAgg134
  z139:=Tryz.sizeOf134
  v139:=Tryz.zeroValue134
  g3:=by kernel_rfl
  g4:=by kernel_rfl }
open Go.RowKit in
theorem Tryz.strings_Trim_one (s:ByteArray) (c:UInt8) (hc:c.toNat < 128) (w:World) (hs:s.size ≤ 9223372036854775807) :
    Calls Tryz.prog 57 #[.string s,.string ⟨#[c]⟩] w fun e w'=>e = .returned (.string ⟨(Lib.trimB s.data.toList c).toArray⟩) ∧ (w' = w ∨ w' = w.drew):=Any.strings_Trim_one Tryz.lays160 s c hc w hs
def Tryz.laysM171_ren:Go.Shelf.Ren:=⟨fun | 171=>40 | 243=>64 | 246=>88 | 283=>107 | 284=>108 | 285=>109 | 286=>110 | 129=>124 | 317=>123 | 318=>125 | 319=>126 | 320=>127 | 337=>135 | 338=>136 | n=>n,fun | 3=>3 | 9=>9 | 2=>2 | 4=>4 | 171=>112 | 0=>0 | 53=>101 | 37=>50 | 5=>5 | 173=>115 | 212=>127 | 51=>98 | 20=>20 | 213=>128 | 46=>82 | 232=>147 | 233=>148 | n=>n,fun | 17=>1 | 18=>6 | 19=>7 | n=>n⟩
theorem Tryz.laysM171:Go.Proofs.LaysM.n171 Tryz.prog Tryz.laysM171_ren:={
  mixed:=by kernel_rfl
  f129:=Tryz.func124.trans (congrArg some (by kernel_rfl))
  f171:=Tryz.func40.trans (congrArg some (by kernel_rfl))
  f243:=Tryz.func64.trans (congrArg some (by kernel_rfl))
  f246:=Tryz.func88.trans (congrArg some (by kernel_rfl))
  f283:=Tryz.func107.trans (congrArg some (by kernel_rfl))
  f284:=Tryz.func108.trans (congrArg some (by kernel_rfl))
  f285:=Tryz.func109.trans (congrArg some (by kernel_rfl))
  f286:=Tryz.func110.trans (congrArg some (by kernel_rfl))
  f317:=Tryz.func123.trans (congrArg some (by kernel_rfl))
  f318:=Tryz.func125.trans (congrArg some (by kernel_rfl))
  f319:=Tryz.func126.trans (congrArg some (by kernel_rfl))
  f320:=Tryz.func127.trans (congrArg some (by kernel_rfl))
  f337:=Tryz.func135.trans (congrArg some (by kernel_rfl))
  f338:=Tryz.func136.trans (congrArg some (by kernel_rfl))
  t0:=Tryz.underlying0
  a0:=Tryz.isAgg0
  z0:=Tryz.sizeOf0
  v0:=Tryz.zeroValue0
  t2:=Tryz.underlying2
  a2:=Tryz.isAgg2
  z2:=Tryz.sizeOf2
  v2:=Tryz.zeroValue2
  t3:=Tryz.underlying3
  a3:=Tryz.isAgg3
  z3:=Tryz.sizeOf3
  v3:=Tryz.zeroValue3
  t4:=Tryz.underlying4
  a4:=Tryz.isAgg4
  z4:=Tryz.sizeOf4
  v4:=Tryz.zeroValue4
  t5:=Tryz.underlying5
  a5:=Tryz.isAgg5
  z5:=Tryz.sizeOf5
  v5:=Tryz.zeroValue5
  t9:=Tryz.underlying9
  a9:=Tryz.isAgg9
  z9:=Tryz.sizeOf9
  v9:=Tryz.zeroValue9
  t20:=Tryz.underlying20
  a20:=Tryz.isAgg20
  z20:=Tryz.sizeOf20
  v20:=Tryz.zeroValue20
  t37:=Tryz.underlying50
  a37:=Tryz.isAgg50
  z37:=Tryz.sizeOf50
  v37:=Tryz.zeroValue50
  t46:=Tryz.underlying82
  a46:=Tryz.isAgg82
  z46:=Tryz.sizeOf82
  v46:=Tryz.zeroValue82
  t51:=Tryz.underlying98
  a51:=Tryz.isAgg98
  z51:=Tryz.sizeOf98
  v51:=Tryz.zeroValue98
  t53:=Tryz.underlying101
  a53:=Tryz.isAgg101
  z53:=Tryz.sizeOf101
  v53:=Tryz.zeroValue101
  t171:=Tryz.underlying112
  a171:=Tryz.isAgg112
  z171:=Tryz.sizeOf112
  v171:=Tryz.zeroValue112
  t173:=Tryz.underlying115
  a173:=Tryz.isAgg115
  z173:=Tryz.sizeOf115
  v173:=Tryz.zeroValue115
  t212:=Tryz.underlying127
  a212:=Tryz.isAgg127
  z212:=Tryz.sizeOf127
  v212:=Tryz.zeroValue127
  t213:=Tryz.underlying128
  a213:=Tryz.isAgg128
  z213:=Tryz.sizeOf128
  t232:=Tryz.underlying147
  a232:=Tryz.isAgg147
  z232:=Tryz.sizeOf147
  v232:=Tryz.zeroValue147
  t233:=Tryz.underlying148
  a233:=Tryz.isAgg148
  z233:=Tryz.sizeOf148
  v233:=Tryz.zeroValue148
  g17:=by kernel_rfl
  g18:=by kernel_rfl
  g19:=by kernel_rfl
  i0:=by kernel_rfl
  i2:=by kernel_rfl
  i3:=by kernel_rfl
  i4:=by kernel_rfl
  i5:=by kernel_rfl
  i9:=by kernel_rfl
  i20:=by kernel_rfl
  i37:=by kernel_rfl
  i46:=by kernel_rfl
  i51:=by kernel_rfl
  i53:=by kernel_rfl
  i171:=by kernel_rfl
  i173:=by kernel_rfl
  i212:=by kernel_rfl
  i232:=by kernel_rfl
  i233:=by kernel_rfl
  m17:=by kernel_rfl
  m18:=by kernel_rfl
  m19:=by kernel_rfl }
open Go.RowKit Go.Sort Go.Lib in
theorem Tryz.strconv_Itoa (n : Int) (h0 : -9223372036854775808 ≤ n) (h1 : n ≤ 9223372036854775807) (w : World) (htab : Lib.TabIs Tryz.prog w "internal/strconv.uint64pow10" .u64 Lib.pow10Tab) :
    Calls Tryz.prog 40 #[.int .i64 n] w fun e w'=>e = .returned (.string ⟨(Lib.itoa n).toArray⟩) ∧ ∃ k os,w' = grow (w.drewN k) os:=Any.strconv_Itoa Tryz.laysM171 n h0 h1 w htab
def Tryz.laysC172_ren:Go.Shelf.Ren:=⟨fun | 172=>85 | 244=>104 | 245=>105 | 247=>118 | 279=>119 | 280=>120 | 281=>121 | 282=>122 | 287=>132 | 316=>133 | 171=>40 | 205=>134 | 321=>138 | 322=>139 | 243=>64 | 246=>88 | 283=>107 | 284=>108 | 285=>109 | 286=>110 | 129=>124 | 317=>123 | 318=>125 | 319=>126 | 320=>127 | 337=>135 | 338=>136 | n=>n,fun | 9=>9 | 3=>3 | 75=>77 | 76=>78 | 4=>4 | 5=>5 | 167=>119 | 37=>50 | 0=>0 | 85=>120 | 2=>2 | 168=>122 | 53=>101 | 175=>136 | 46=>82 | 210=>139 | 127=>96 | 145=>146 | 143=>144 | 21=>21 | 171=>112 | 173=>115 | 212=>127 | 51=>98 | 20=>20 | 213=>128 | 232=>147 | 233=>148 | 80=>81 | n=>n,fun | 15=>4 | 16=>5 | 17=>1 | 18=>6 | 19=>7 | n=>n⟩
theorem Tryz.laysC172:Go.Proofs.LaysC.n172 Tryz.prog Tryz.laysC172_ren:={
  mixed:=by kernel_rfl
  f129:=Tryz.func124.trans (congrArg some (by kernel_rfl))
  f171:=Tryz.func40.trans (congrArg some (by kernel_rfl))
  f172:=Tryz.func85.trans (congrArg some (by kernel_rfl))
  f205:=Tryz.func134.trans (congrArg some (by kernel_rfl))
  f243:=Tryz.func64.trans (congrArg some (by kernel_rfl))
  f244:=Tryz.func104.trans (congrArg some (by kernel_rfl))
  f245:=Tryz.func105.trans (congrArg some (by kernel_rfl))
  f246:=Tryz.func88.trans (congrArg some (by kernel_rfl))
  f247:=Tryz.func118.trans (congrArg some (by kernel_rfl))
  f279:=Tryz.func119.trans (congrArg some (by kernel_rfl))
  f280:=Tryz.func120.trans (congrArg some (by kernel_rfl))
  f281:=Tryz.func121.trans (congrArg some (by kernel_rfl))
  f282:=Tryz.func122.trans (congrArg some (by kernel_rfl))
  f283:=Tryz.func107.trans (congrArg some (by kernel_rfl))
  f284:=Tryz.func108.trans (congrArg some (by kernel_rfl))
  f285:=Tryz.func109.trans (congrArg some (by kernel_rfl))
  f286:=Tryz.func110.trans (congrArg some (by kernel_rfl))
  f287:=Tryz.func132.trans (congrArg some (by kernel_rfl))
  f316:=Tryz.func133.trans (congrArg some (by kernel_rfl))
  f317:=Tryz.func123.trans (congrArg some (by kernel_rfl))
  f318:=Tryz.func125.trans (congrArg some (by kernel_rfl))
  f319:=Tryz.func126.trans (congrArg some (by kernel_rfl))
  f320:=Tryz.func127.trans (congrArg some (by kernel_rfl))
  f321:=Tryz.func138.trans (congrArg some (by kernel_rfl))
  f322:=Tryz.func139.trans (congrArg some (by kernel_rfl))
  f337:=Tryz.func135.trans (congrArg some (by kernel_rfl))
  f338:=Tryz.func136.trans (congrArg some (by kernel_rfl))
  t0:=Tryz.underlying0
  a0:=Tryz.isAgg0
  z0:=Tryz.sizeOf0
  v0:=Tryz.zeroValue0
  t2:=Tryz.underlying2
  a2:=Tryz.isAgg2
  z2:=Tryz.sizeOf2
  v2:=Tryz.zeroValue2
  t3:=Tryz.underlying3
  a3:=Tryz.isAgg3
  z3:=Tryz.sizeOf3
  v3:=Tryz.zeroValue3
  t4:=Tryz.underlying4
  a4:=Tryz.isAgg4
  z4:=Tryz.sizeOf4
  v4:=Tryz.zeroValue4
  t5:=Tryz.underlying5
  a5:=Tryz.isAgg5
  z5:=Tryz.sizeOf5
  v5:=Tryz.zeroValue5
  t9:=Tryz.underlying9
  a9:=Tryz.isAgg9
  z9:=Tryz.sizeOf9
  v9:=Tryz.zeroValue9
  t20:=Tryz.underlying20
  a20:=Tryz.isAgg20
  z20:=Tryz.sizeOf20
  v20:=Tryz.zeroValue20
  t21:=Tryz.underlying21
  a21:=Tryz.isAgg21
  z21:=Tryz.sizeOf21
  v21:=Tryz.zeroValue21
  t37:=Tryz.underlying50
  a37:=Tryz.isAgg50
  z37:=Tryz.sizeOf50
  v37:=Tryz.zeroValue50
  t46:=Tryz.underlying82
  a46:=Tryz.isAgg82
  z46:=Tryz.sizeOf82
  v46:=Tryz.zeroValue82
  t51:=Tryz.underlying98
  a51:=Tryz.isAgg98
  z51:=Tryz.sizeOf98
  v51:=Tryz.zeroValue98
  t53:=Tryz.underlying101
  a53:=Tryz.isAgg101
  z53:=Tryz.sizeOf101
  v53:=Tryz.zeroValue101
  t75:=Tryz.underlying77
  a75:=Tryz.isAgg77
  z75:=Tryz.sizeOf77
  v75:=Tryz.zeroValue77
  t76:=Tryz.underlying78
  a76:=Tryz.isAgg78
  z76:=Tryz.sizeOf78
  v76:=Tryz.zeroValue78
  t85:=Tryz.underlying120
  a85:=Tryz.isAgg120
  z85:=Tryz.sizeOf120
  v85:=Tryz.zeroValue120
  t127:=Tryz.underlying96
  a127:=Tryz.isAgg96
  z127:=Tryz.sizeOf96
  v127:=Tryz.zeroValue96
  t143:=Tryz.underlying144
  a143:=Tryz.isAgg144
  z143:=Tryz.sizeOf144
  v143:=Tryz.zeroValue144
  t145:=Tryz.underlying146
  a145:=Tryz.isAgg146
  z145:=Tryz.sizeOf146
  v145:=Tryz.zeroValue146
  t167:=Tryz.underlying119
  a167:=Tryz.isAgg119
  z167:=Tryz.sizeOf119
  v167:=Tryz.zeroValue119
  t168:=Tryz.underlying122
  a168:=Tryz.isAgg122
  z168:=Tryz.sizeOf122
  v168:=Tryz.zeroValue122
  t171:=Tryz.underlying112
  a171:=Tryz.isAgg112
  z171:=Tryz.sizeOf112
  v171:=Tryz.zeroValue112
  t173:=Tryz.underlying115
  a173:=Tryz.isAgg115
  z173:=Tryz.sizeOf115
  v173:=Tryz.zeroValue115
  t175:=Tryz.underlying136
  a175:=Tryz.isAgg136
  z175:=Tryz.sizeOf136
  v175:=Tryz.zeroValue136
  t210:=Tryz.underlying139
  a210:=Tryz.isAgg139
  z210:=Tryz.sizeOf139
  v210:=Tryz.zeroValue139
  t212:=Tryz.underlying127
  a212:=Tryz.isAgg127
  z212:=Tryz.sizeOf127
  v212:=Tryz.zeroValue127
  t213:=Tryz.underlying128
  a213:=Tryz.isAgg128
  z213:=Tryz.sizeOf128
  t232:=Tryz.underlying147
  a232:=Tryz.isAgg147
  z232:=Tryz.sizeOf147
  v232:=Tryz.zeroValue147
  t233:=Tryz.underlying148
  a233:=Tryz.isAgg148
  z233:=Tryz.sizeOf148
  v233:=Tryz.zeroValue148
  g15:=by kernel_rfl
  g16:=by kernel_rfl
  g17:=by kernel_rfl
  g18:=by kernel_rfl
  g19:=by kernel_rfl
  t80:=Tryz.underlying81
  a80:=Tryz.isAgg81
  z80:=Tryz.sizeOf81
  v80:=Tryz.zeroValue81
  i0:=by kernel_rfl
  i2:=by kernel_rfl
  i3:=by kernel_rfl
  i4:=by kernel_rfl
  i5:=by kernel_rfl
  i9:=by kernel_rfl
  i20:=by kernel_rfl
  i21:=by kernel_rfl
  i37:=by kernel_rfl
  i46:=by kernel_rfl
  i51:=by kernel_rfl
  i53:=by kernel_rfl
  i75:=by kernel_rfl
  i76:=by kernel_rfl
  i80:=by kernel_rfl
  i85:=by kernel_rfl
  i127:=by kernel_rfl
  i143:=by kernel_rfl
  i145:=by kernel_rfl
  i167:=by kernel_rfl
  i168:=by kernel_rfl
  i171:=by kernel_rfl
  i173:=by kernel_rfl
  i175:=by kernel_rfl
  i210:=by kernel_rfl
  i212:=by kernel_rfl
  i232:=by kernel_rfl
  i233:=by kernel_rfl
  m15:=by kernel_rfl
  m16:=by kernel_rfl
  m17:=by kernel_rfl
  m18:=by kernel_rfl
  m19:=by kernel_rfl
  c0:=by kernel_rfl
  c2:=by kernel_rfl
  c3:=by kernel_rfl
  c4:=by kernel_rfl
  c5:=by kernel_rfl
  c9:=by kernel_rfl
  c20:=by kernel_rfl
  c21:=by kernel_rfl
  c37:=by kernel_rfl
  c46:=by kernel_rfl
  c51:=by kernel_rfl
  c53:=by kernel_rfl
  c75:=by kernel_rfl
  c76:=by kernel_rfl
  c80:=by kernel_rfl
  c85:=by kernel_rfl
  c127:=by kernel_rfl
  c143:=by kernel_rfl
  c145:=by kernel_rfl
  c167:=by kernel_rfl
  c168:=by kernel_rfl
  c171:=by kernel_rfl
  c173:=by kernel_rfl
  c175:=by kernel_rfl
  c210:=by kernel_rfl
  c212:=by kernel_rfl
  c213:=by kernel_rfl
  c232:=by kernel_rfl
  c233:=by kernel_rfl }
open Go.RowKit in
theorem Tryz.strconv_Atoi_ok (s:ByteArray) (hmax:s.size ≤ 9223372036854775806) (v:Int) (h:Lib.atoiAll s.data.toList = .ok v) (w:World) :
    Calls Tryz.prog 85 #[.string s] w fun e w'=>e = .returned (.tuple #[.int .i64 v,.nilIface]) ∧ (w' = w ∨ ∃ t,w' = Lib.bytesWorld w 5 t):=Any.strconv_Atoi_ok Tryz.laysC172 s hmax v h w
open Go.RowKit in
theorem Tryz.strconv_Atoi_syntax (s:ByteArray) (hlim:s.size ≤ 281474976710656) (h:Lib.atoiAll s.data.toList = Lib.NumEnd.syntax) (ev:Value) (w:World) (hv:w.cell? ⟨4,0,none⟩ = some ev) (hev:ev = .nilIface ∨ ∃ te pe,ev = .iface te pe) :
    Calls Tryz.prog 85 #[.string s] w fun e w'=>∃ N,e = .returned (.tuple #[.int .i64 (0),.iface 122 (.pointer (some ⟨N,0,none⟩))]) ∧ w.heap.size ≤ N ∧ w'.heap[N]? = some (.cells #[.string ⟨#[65,116,111,105]⟩,.string s,ev] 139 (0,0)) ∧ Below w.heap.size w w':=Any.strconv_Atoi_syntax Tryz.laysC172 s hlim h ev w hv hev
open Go.RowKit in
theorem Tryz.strconv_Atoi_range (s:ByteArray) (hlim:s.size ≤ 281474976710656) (h:Lib.atoiAll s.data.toList = .range) (ev:Value) (w:World) (hv:w.cell? ⟨5,0,none⟩ = some ev) (hev:ev = .nilIface ∨ ∃ te pe,ev = .iface te pe) :
    Calls Tryz.prog 85 #[.string s] w fun e w'=>∃ N,e = .returned (.tuple #[.int .i64 (Lib.atoiSat s.data.toList),.iface 122 (.pointer (some ⟨N,0,none⟩))]) ∧ w.heap.size ≤ N ∧ w'.heap[N]? = some (.cells #[.string ⟨#[65,116,111,105]⟩,.string s,ev] 139 (0,0)) ∧ Below w.heap.size w w':=Any.strconv_Atoi_range Tryz.laysC172 s hlim h ev w hv hev
def Tryz.lays146_ren:Go.Shelf.Ren:=⟨fun | 146=>54 | 221=>79 | 268=>99 | 138=>100 | 143=>101 | 195=>114 | 197=>96 | 218=>115 | 219=>116 | 260=>112 | 217=>81 | 225=>130 | 224=>129 | 267=>131 | 266=>102 | 314=>137 | n=>n,fun | 9=>9 | 31=>39 | 3=>3 | 4=>4 | 0=>0 | 105=>104 | 21=>21 | 5=>5 | 46=>82 | 119=>131 | 139=>134 | 138=>133 | 146=>99 | 51=>98 | n=>n,fun | 1=>0 | 3=>2 | 4=>3 | n=>n⟩
theorem Tryz.lays146:Go.Proofs.Lays.n146 Tryz.prog Tryz.lays146_ren:={
  mixed:=by kernel_rfl
  f138:=Tryz.func100.trans (congrArg some (by kernel_rfl))
  f143:=Tryz.func101.trans (congrArg some (by kernel_rfl))
  f146:=Tryz.func54.trans (congrArg some (by kernel_rfl))
  f195:=Tryz.func114.trans (congrArg some (by kernel_rfl))
  f197:=Tryz.func96.trans (congrArg some (by kernel_rfl))
  f217:=Tryz.func81.trans (congrArg some (by kernel_rfl))
  f218:=Tryz.func115.trans (congrArg some (by kernel_rfl))
  f219:=Tryz.func116.trans (congrArg some (by kernel_rfl))
  f221:=Tryz.func79.trans (congrArg some (by kernel_rfl))
  f224:=Tryz.func129.trans (congrArg some (by kernel_rfl))
  f225:=Tryz.func130.trans (congrArg some (by kernel_rfl))
  f260:=Tryz.func112.trans (congrArg some (by kernel_rfl))
  f266:=Tryz.func102.trans (congrArg some (by kernel_rfl))
  f267:=Tryz.func131.trans (congrArg some (by kernel_rfl))
  f268:=Tryz.func99.trans (congrArg some (by kernel_rfl))
  f314:=Tryz.func137.trans (congrArg some (by kernel_rfl))
  t0:=Tryz.underlying0
  a0:=Tryz.isAgg0
  z0:=Tryz.sizeOf0
  v0:=Tryz.zeroValue0
  t3:=Tryz.underlying3
  a3:=Tryz.isAgg3
  z3:=Tryz.sizeOf3
  v3:=Tryz.zeroValue3
  t4:=Tryz.underlying4
  a4:=Tryz.isAgg4
  z4:=Tryz.sizeOf4
  v4:=Tryz.zeroValue4
  t5:=Tryz.underlying5
  a5:=Tryz.isAgg5
  z5:=Tryz.sizeOf5
  v5:=Tryz.zeroValue5
  t9:=Tryz.underlying9
  a9:=Tryz.isAgg9
  z9:=Tryz.sizeOf9
  v9:=Tryz.zeroValue9
  t21:=Tryz.underlying21
  a21:=Tryz.isAgg21
  z21:=Tryz.sizeOf21
  v21:=Tryz.zeroValue21
  t31:=Tryz.underlying39
  a31:=Tryz.isAgg39
  z31:=Tryz.sizeOf39
  v31:=Tryz.zeroValue39
  t46:=Tryz.underlying82
  a46:=Tryz.isAgg82
  z46:=Tryz.sizeOf82
  v46:=Tryz.zeroValue82
  t51:=Tryz.underlying98
  a51:=Tryz.isAgg98
  z51:=Tryz.sizeOf98
  v51:=Tryz.zeroValue98
  t105:=Tryz.underlying104
  a105:=Tryz.isAgg104
  z105:=Tryz.sizeOf104
  v105:=Tryz.zeroValue104
  t119:=Tryz.underlying131
  a119:=Tryz.isAgg131
  z119:=Tryz.sizeOf131
  t138:=Tryz.underlying133
  a138:=Tryz.isAgg133
  z138:=Tryz.sizeOf133
  v138:=Tryz.zeroValue133
  t139:=Tryz.underlying134
  a139:=Tryz.isAgg134
  z139:=Tryz.sizeOf134
  v139:=Tryz.zeroValue134
  t146:=Tryz.underlying99
  a146:=Tryz.isAgg99
  z146:=Tryz.sizeOf99
  v146:=Tryz.zeroValue99
  g1:=by kernel_rfl
  g3:=by kernel_rfl
  g4:=by kernel_rfl }
open Go.RowKit Go.Lib in
theorem Tryz.strings_Split (s sep:ByteArray) (m:Int) (w:World) (hs:s.size < 4294967281) (hm:w.cell? ⟨0,0,none⟩ = some (.int .i64 m)) (h1:1 ≤ sep.size) :
    Calls Tryz.prog 54 #[.string s,.string sep] w fun e w' =>
      e = .returned (.slice (some ⟨w.heap.size,0,none⟩) (Lib.countB s sep + 1) (Lib.countB s sep + 1)) ∧ w' = w.alloc (.cells ((Lib.splitB sep 0 (Lib.countB s sep) s).map Value.string).toArray 9):=Any.strings_Split Tryz.lays146 (by kernel_rfl) s sep m w hs hm h1
def Tryz.lays105_ren:Go.Shelf.Ren:=⟨fun | 105=>43 | 212=>65 | 99=>66 | 165=>67 | 166=>61 | 170=>62 | 169=>63 | 263=>89 | 264=>90 | 206=>91 | 240=>87 | 241=>92 | 276=>106 | 277=>111 | n=>n,fun | 9=>9 | 3=>3 | 4=>4 | 20=>20 | 0=>0 | 46=>82 | 109=>83 | 5=>5 | 72=>75 | 76=>78 | 51=>98 | 146=>99 | 53=>101 | 148=>102 | 70=>73 | 37=>50 | 75=>77 | 127=>96 | 164=>110 | 80=>81 | n=>n,fun | n=>n⟩
theorem Tryz.lays105:Go.Proofs.Lays.n105 Tryz.prog Tryz.lays105_ren:={
  mixed:=by kernel_rfl
  f99:=Tryz.func66.trans (congrArg some (by kernel_rfl))
  f105:=Tryz.func43.trans (congrArg some (by kernel_rfl))
  f165:=Tryz.func67.trans (congrArg some (by kernel_rfl))
  f166:=Tryz.func61.trans (congrArg some (by kernel_rfl))
  f169:=Tryz.func63.trans (congrArg some (by kernel_rfl))
  f170:=Tryz.func62.trans (congrArg some (by kernel_rfl))
  f206:=Tryz.func91.trans (congrArg some (by kernel_rfl))
  f212:=Tryz.func65.trans (congrArg some (by kernel_rfl))
  f240:=Tryz.func87.trans (congrArg some (by kernel_rfl))
  f241:=Tryz.func92.trans (congrArg some (by kernel_rfl))
  f263:=Tryz.func89.trans (congrArg some (by kernel_rfl))
  f264:=Tryz.func90.trans (congrArg some (by kernel_rfl))
  f276:=Tryz.func106.trans (congrArg some (by kernel_rfl))
  f277:=Tryz.func111.trans (congrArg some (by kernel_rfl))
  t0:=Tryz.underlying0
  a0:=Tryz.isAgg0
  z0:=Tryz.sizeOf0
  v0:=Tryz.zeroValue0
  t3:=Tryz.underlying3
  a3:=Tryz.isAgg3
  z3:=Tryz.sizeOf3
  v3:=Tryz.zeroValue3
  t4:=Tryz.underlying4
  a4:=Tryz.isAgg4
  z4:=Tryz.sizeOf4
  v4:=Tryz.zeroValue4
  t5:=Tryz.underlying5
  a5:=Tryz.isAgg5
  z5:=Tryz.sizeOf5
  v5:=Tryz.zeroValue5
  t9:=Tryz.underlying9
  a9:=Tryz.isAgg9
  z9:=Tryz.sizeOf9
  v9:=Tryz.zeroValue9
  t20:=Tryz.underlying20
  a20:=Tryz.isAgg20
  z20:=Tryz.sizeOf20
  v20:=Tryz.zeroValue20
  t37:=Tryz.underlying50
  a37:=Tryz.isAgg50
  z37:=Tryz.sizeOf50
  v37:=Tryz.zeroValue50
  t46:=Tryz.underlying82
  a46:=Tryz.isAgg82
  z46:=Tryz.sizeOf82
  v46:=Tryz.zeroValue82
  t51:=Tryz.underlying98
  a51:=Tryz.isAgg98
  z51:=Tryz.sizeOf98
  v51:=Tryz.zeroValue98
  t53:=Tryz.underlying101
  a53:=Tryz.isAgg101
  z53:=Tryz.sizeOf101
  v53:=Tryz.zeroValue101
  t70:=Tryz.underlying73
  a70:=Tryz.isAgg73
  z70:=Tryz.sizeOf73
  v70:=Tryz.zeroValue73
  t72:=Tryz.underlying75
  a72:=Tryz.isAgg75
  z72:=Tryz.sizeOf75
  v72:=Tryz.zeroValue75
  t75:=Tryz.underlying77
  a75:=Tryz.isAgg77
  z75:=Tryz.sizeOf77
  v75:=Tryz.zeroValue77
  t76:=Tryz.underlying78
  a76:=Tryz.isAgg78
  z76:=Tryz.sizeOf78
  v76:=Tryz.zeroValue78
  t109:=Tryz.underlying83
  a109:=Tryz.isAgg83
  z109:=Tryz.sizeOf83
  v109:=Tryz.zeroValue83
  t127:=Tryz.underlying96
  a127:=Tryz.isAgg96
  z127:=Tryz.sizeOf96
  v127:=Tryz.zeroValue96
  t146:=Tryz.underlying99
  a146:=Tryz.isAgg99
  z146:=Tryz.sizeOf99
  v146:=Tryz.zeroValue99
  t148:=Tryz.underlying102
  a148:=Tryz.isAgg102
  z148:=Tryz.sizeOf102
  v148:=Tryz.zeroValue102
  t164:=Tryz.underlying110
  a164:=Tryz.isAgg110
  z164:=Tryz.sizeOf110
  v164:=Tryz.zeroValue110 }
theorem Tryz.Builder_Extra_105:Builder.Extra Tryz.prog Tryz.lays105_ren:={
  sizeBuilder:=by kernel_rfl
  liesBuilder:=by kernel_rfl
  t5:=Tryz.underlying5
  a5:=Tryz.isAgg5
  z5:=Tryz.sizeOf5
  v5:=Tryz.zeroValue5
  infoByte:=by kernel_rfl
  cellsByte:=by kernel_rfl
  sizeByte:=by kernel_rfl
  neB5:=by decide }
open Go.RowKit Go.Lib in
theorem Tryz.strings_Repeat (s:ByteArray) (c:Nat) (w:World) (hc:c ≤ 9223372036854775807) (hlen:s.size * c ≤ 140737488355328) :
    Calls Tryz.prog 43 #[.string s,.int .i64 c] w fun e w'=>e = .returned (.string ⟨(Lib.repeatL s.data.toList c).toArray⟩) ∧ Below w.heap.size w w':=Any.strings_Repeat Tryz.lays105 Tryz.Builder_Extra_105 s c w hc hlen
end Go.Proofs
