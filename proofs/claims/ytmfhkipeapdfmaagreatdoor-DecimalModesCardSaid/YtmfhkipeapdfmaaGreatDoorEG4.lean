import Derived.Test.YtmfhkipeapdfmaaGreatDoorEG3
import Derived.Test.YtmfhkipeapdfmaaGreatDoorFX
import Derived.Test.YtmfhkipeapdfmaaGreatDoorFY
import Derived.Test.YtmfhkipeapdfmaaGreatDoorProg
namespace Go.Q
open Go Go.Proofs
set_option maxRecDepth 10000
set_option maxHeartbeats 2000000
structure Rec51 where
  f51:Int → Option ByteArray
structure Rec51.Ok (R:Rec51):Prop where
  f51_ok:∀ {n0:Int} {r:ByteArray},R.f51 n0 = some r → Gives Tryz.prog 51 [.lit (.int .i64 n0)] (.lit (.string r))
end Go.Q
