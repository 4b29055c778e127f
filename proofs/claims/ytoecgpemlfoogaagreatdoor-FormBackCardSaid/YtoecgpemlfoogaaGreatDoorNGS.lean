import Derived.Test.YtoecgpemlfoogaaGreatDoorFX
import Derived.Test.YtoecgpemlfoogaaGreatDoorFY
import Derived.Test.YtoecgpemlfoogaaGreatDoorProg
namespace Go.Q
open Go Go.Proofs
abbrev J (n:Int):AV:=.lit (.int .i64 n)
abbrev U (n:Int):AV:=.lit (.int .u64 n)
set_option maxRecDepth 10000
set_option maxHeartbeats 2000000
theorem Tryz_mixed:Tryz.prog.follows .mixedOrders = true:=by kernel_rfl
structure api.Line where
  Label:Int
  Text:ByteArray
  At:Int
def api.Line.enc (x:api.Line):AV:=.agg [.lit (.int .i64 x.Label),.lit (.string x.Text),.lit (.int .i64 x.At)]
end Go.Q
