import Derived.Test.YtoecgpemlfoogaaGreatDoorF2
import Derived.Lib.SplitLaws
namespace Go.Q
open Go
def pieces:BS → BS → List BS
  | [],now=>[now]
  | c :: r,now=>if c = 10 then now :: pieces r [] else pieces r (now ++ [c])
end Go.Q
