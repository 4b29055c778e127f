import Derived.Shelf.Strings.Builder1
import Derived.Test.YtmfhkipeapdfmaaGreatDoorProg
namespace Go.Proofs
open Go.Shelf
set_option maxRecDepth 10000
def Tryz.lays166_ren:Go.Shelf.Ren:=⟨fun | 166=>102 | 240=>143 | 276=>160 | n=>n,fun | 0=>0 | 3=>3 | 4=>4 | 5=>5 | 9=>9 | 20=>20 | 37=>89 | 70=>141 | 72=>143 | 75=>146 | 80=>99 | 164=>191 | n=>n,fun | n=>n⟩
theorem Tryz.lays166:Go.Proofs.Lays.n166 Tryz.prog Tryz.lays166_ren:={
  mixed:=by kernel_rfl
  f166:=Tryz.func102.trans (congrArg some (by kernel_rfl))
  f240:=Tryz.func143.trans (congrArg some (by kernel_rfl))
  f276:=Tryz.func160.trans (congrArg some (by kernel_rfl))
  t0:=Tryz.underlying0
  a0:=Tryz.isAgg0
  z0:=Tryz.sizeOf0
  v0:=Tryz.zeroValue0
  t3:=Tryz.underlying3
  a3:=Tryz.isAgg3
  z3:=Tryz.sizeOf3
  v3:=Tryz.zeroValue3
  t4:=Tryz.underlying4
  a4:=Tryz.isAgg4
  z4:=Tryz.sizeOf4
  v4:=Tryz.zeroValue4
  t9:=Tryz.underlying9
  a9:=Tryz.isAgg9
  z9:=Tryz.sizeOf9
  v9:=Tryz.zeroValue9
  t20:=Tryz.underlying20
  a20:=Tryz.isAgg20
  z20:=Tryz.sizeOf20
  v20:=Tryz.zeroValue20
  t37:=Tryz.underlying89
  a37:=Tryz.isAgg89
  z37:=Tryz.sizeOf89
  v37:=Tryz.zeroValue89
  t70:=Tryz.underlying141
  a70:=Tryz.isAgg141
  z70:=Tryz.sizeOf141
  v70:=Tryz.zeroValue141
  t72:=Tryz.underlying143
  a72:=Tryz.isAgg143
  z72:=Tryz.sizeOf143
  v72:=Tryz.zeroValue143
  t75:=Tryz.underlying146
  a75:=Tryz.isAgg146
  z75:=Tryz.sizeOf146
  v75:=Tryz.zeroValue146
  t164:=Tryz.underlying191
  a164:=Tryz.isAgg191
  z164:=Tryz.sizeOf191
  v164:=Tryz.zeroValue191 }
theorem Tryz.Builder_Extra_166:Builder.Extra Tryz.prog Tryz.lays166_ren:={
  sizeBuilder:=by kernel_rfl
  liesBuilder:=by kernel_rfl
  t5:=Tryz.underlying5
  a5:=Tryz.isAgg5
  z5:=Tryz.sizeOf5
  v5:=Tryz.zeroValue5
  infoByte:=by kernel_rfl
  cellsByte:=by kernel_rfl
  sizeByte:=by kernel_rfl
  neB5:=by decide }
end Go.Proofs
