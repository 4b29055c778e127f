import Derived.Test.YtmfhkipeapdfmaaGreatDoorFX
import Derived.Test.YtmfhkipeapdfmaaGreatDoorFY
import Derived.Test.YtmfhkipeapdfmaaGreatDoorProg
namespace Go.Q
open Go Go.Proofs
set_option maxRecDepth 10000
set_option maxHeartbeats 2000000
theorem Tryz_mixed:Tryz.prog.follows .mixedOrders = true:=by kernel_rfl
structure quadratref01.float where
  what:ByteArray
  sign:Int
  m:List Int
  e:Int
structure float.shape where
  p:Int
  w:Int
def float.shape.enc (x:float.shape):AV:=.agg [.lit (.int .i64 x.p),.lit (.int .i64 x.w)]
structure float.number where
  class_:Int
  sign:Int
  m:Int
  e:Int
def float.number.enc (x:float.number):AV:=.agg [.lit (.int .i64 x.class_),.lit (.int .i64 x.sign),.lit (.int .u64 x.m),.lit (.int .i64 x.e)]
structure decimal.parsed where
  sign:Int
  word:ByteArray
  digits:ByteArray
  x:Int
def decimal.parsed.enc (x:decimal.parsed):AV:=.agg [.lit (.int .i64 x.sign),.lit (.string x.word),.lit (.string x.digits),.lit (.int .i64 x.x)]
structure float.exact where
  hi:Int
  lo:Int
  e:Int
  more:Bool
def float.exact.enc (x:float.exact):AV:=.agg [.lit (.int .u64 x.hi),.lit (.int .u64 x.lo),.lit (.int .i64 x.e),.lit (.bool x.more)]
structure quadratlaw02.Float where
  Kind:Int
  Mode:Int
  Bits:Int
end Go.Q
