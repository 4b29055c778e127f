import Derived.Test.YtmfhkipeapdfmaaGreatDoorEG2
import Derived.Test.YtmfhkipeapdfmaaGreatDoorZU
import Derived.Test.YtmfhkipeapdfmaaGreatDoorAB
import Derived.Test.YtmfhkipeapdfmaaGreatDoorEG5
namespace Go.Q
open Go
set_option maxRecDepth 10000
end Go.Q
namespace Go.Q
open Go
set_option maxRecDepth 10000
end Go.Q
namespace Go.Q
open Go
set_option maxRecDepth 10000
end Go.Q
namespace Go.Q
open Go
set_option maxRecDepth 10000
end Go.Q
