import Derived.Test.YtmfhkipeapdfmaaGreatDoorEG2
import Derived.Test.YtmfhkipeapdfmaaGreatDoorFX
import Derived.Test.YtmfhkipeapdfmaaGreatDoorFY
import Derived.Test.YtmfhkipeapdfmaaGreatDoorProg
namespace Go.Q
open Go Go.Proofs
set_option maxRecDepth 10000
set_option maxHeartbeats 2000000
noncomputable def Dec.Is (a:ByteArray):Option Bool :=
 Option.bind (Dec.parse a) fun (_,b) =>
 some b
theorem Dec.Is_ok {a:ByteArray} {r:Bool} (b:Dec.Is a = some r):Gives Tryz.prog 18 [.lit (.string a)] (.lit (.bool r)):=by
 unfold Dec.Is at b
 refine W' [] Tryz.func18 ?_
 obtain ⟨⟨_,_⟩,c,d⟩:=bind_elim b
 exact Gate.go (Z' (Dec.parse_ok c) (V' (V' (R' (E:=E1') d))))
end Go.Q
