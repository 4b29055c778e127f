import Derived.Test.YtmfhkipeapdfmaaGreatDoorDG5
import Derived.Test.YtmfhkipeapdfmaaGreatDoorFX
import Derived.Test.YtmfhkipeapdfmaaGreatDoorFY
import Derived.Test.YtmfhkipeapdfmaaGreatDoorProg
namespace Go.Q
open Go Go.Proofs
set_option maxRecDepth 10000
set_option maxHeartbeats 2000000
structure quadratref02.Form where
  P:Int
  W:Int
def quadratref02.Form.enc (x:quadratref02.Form):AV:=.agg [.lit (.int .i64 x.P),.lit (.int .i64 x.W)]
structure quadratref02.text where
  sign:Int
  digits:ByteArray
  x:Int
  word:ByteArray
def quadratref02.text.enc (x:quadratref02.text):AV:=.agg [.lit (.int .i64 x.sign),.lit (.string x.digits),.lit (.int .i64 x.x),.lit (.string x.word)]
structure quadratref02.fraction where
  sign:Int
  num:List Int
  den:List Int
def quadratref02.fraction.enc (x:quadratref02.fraction):AV:=.agg [.lit (.int .i64 x.sign),.vs 1 (x.num.map (eI .u32)),.vs 1 (x.den.map (eI .u32))]
end Go.Q
