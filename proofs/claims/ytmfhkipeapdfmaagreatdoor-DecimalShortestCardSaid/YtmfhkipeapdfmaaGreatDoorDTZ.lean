import Derived.Shelf.Spec.TrailingZeros
import Derived.Test.YtmfhkipeapdfmaaGreatDoorProg
namespace Go.Proofs
open Go.Shelf
set_option maxRecDepth 10000
def Tryz.lays7n29_ren:Go.Shelf.Ren:=⟨fun | 29=>118 | n=>n,fun | 22=>87 | 25=>137 | 54=>185 | n=>n,fun | 1=>0 | n=>n⟩
theorem Tryz.lays7n29:Go.Proofs.Lays7.n29 Tryz.prog Tryz.lays7n29_ren:={
  mixed:=by kernel_rfl
  f29:=Tryz.func118.trans (congrArg some (by kernel_rfl))
  t0:=Tryz.underlying0
  a0:=Tryz.isAgg0
  z0:=Tryz.sizeOf0
  v0:=Tryz.zeroValue0
  i0:=by kernel_rfl
  t3:=Tryz.underlying3
  a3:=Tryz.isAgg3
  z3:=Tryz.sizeOf3
  v3:=Tryz.zeroValue3
  i3:=by kernel_rfl
  t4:=Tryz.underlying4
  a4:=Tryz.isAgg4
  z4:=Tryz.sizeOf4
  v4:=Tryz.zeroValue4
  i4:=by kernel_rfl
  t5:=Tryz.underlying5
  a5:=Tryz.isAgg5
  z5:=Tryz.sizeOf5
  v5:=Tryz.zeroValue5
  i5:=by kernel_rfl
  t22:=Tryz.underlying87
  a22:=Tryz.isAgg87
  z22:=Tryz.sizeOf87
  v22:=Tryz.zeroValue87
  i22:=by kernel_rfl
  t25:=Tryz.underlying137
  a25:=Tryz.isAgg137
  z25:=Tryz.sizeOf137
  v25:=Tryz.zeroValue137
  i25:=by kernel_rfl
  t54:=Tryz.underlying185
  a54:=Tryz.isAgg185
  z54:=Tryz.sizeOf185
  g1:=by kernel_rfl }
end Go.Proofs
