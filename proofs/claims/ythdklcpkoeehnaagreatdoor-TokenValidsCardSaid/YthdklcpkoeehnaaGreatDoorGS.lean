import Derived.Test.YthdklcpkoeehnaaGreatDoorFD
import Derived.Test.YthdklcpkoeehnaaGreatDoorProg
namespace Go.Q
open Go Go.Proofs
set_option maxRecDepth 10000
set_option maxHeartbeats 2000000

theorem Tryz_mixed : Tryz.prog.follows .mixedOrders = true := by kernel_rfl

structure api.Token where
  Kind : ByteArray
  Text : ByteArray
def api.Token.enc (x : api.Token) : AV := .agg [.lit (.string x.Kind), .lit (.string x.Text)]

structure decimal.parsed where
  sign : Int
  word : ByteArray
  digits : ByteArray
  x : Int
def decimal.parsed.enc (x : decimal.parsed) : AV := .agg [.lit (.int .i64 x.sign), .lit (.string x.word), .lit (.string x.digits), .lit (.int .i64 x.x)]

end Go.Q
