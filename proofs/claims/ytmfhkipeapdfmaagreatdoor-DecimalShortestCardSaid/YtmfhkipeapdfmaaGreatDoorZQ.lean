import Derived.Test.YtmfhkipeapdfmaaGreatDoorZA
namespace Go.Q
open Go Go.RowKit Go.ChangeShapes Go.WideShapes
section
variable {P:Program} {H:Type} {enc:TypeId × Value → H} {w:World} {sp:Nat → Bool} {held:Bool}
end
end Go.Q
