import Derived.Test.YtognkiddigibnaaGreatDoorFX
import Derived.Test.YtognkiddigibnaaGreatDoorFY
import Derived.Test.YtognkiddigibnaaGreatDoorProg
namespace Go.Q
open Go Go.Proofs
set_option maxRecDepth 10000
set_option maxHeartbeats 2000000
theorem Tryz_mixed:Tryz.prog.follows .mixedOrders = true:=by kernel_rfl
structure api.Value where
  Kind:Int
  N:Int
def api.Value.enc (x:api.Value):AV:=.agg [.lit (.int .i64 x.Kind),.lit (.int .i64 x.N)]
structure float.shape where
  p:Int
  w:Int
def float.shape.enc (x:float.shape):AV:=.agg [.lit (.int .i64 x.p),.lit (.int .i64 x.w)]
structure float.number where
  class_:Int
  sign:Int
  m:Int
  e:Int
def float.number.enc (x:float.number):AV:=.agg [.lit (.int .i64 x.class_),.lit (.int .i64 x.sign),.lit (.int .u64 x.m),.lit (.int .i64 x.e)]
structure listing.item where
  times:Int
  text:ByteArray
def listing.item.enc (x:listing.item):AV:=.agg [.lit (.int .i64 x.times),.lit (.string x.text)]
end Go.Q
