import Derived.Test.YtmfhkipeapdfmaaGreatDoorFD
import Derived.Test.YtmfhkipeapdfmaaGreatDoorPS
namespace Go.Q
open Go
theorem chk_pos {ρ:Type} {c:Prop} {X:Option ρ} (h:c):chk c X = X:=if_pos h
theorem size_B (l:BS):(B l).size = l.length:=rfl
theorem B_appR (x y:BS):B x ++ B y = B (x ++ y):=by
  have h:=L_app (B x) (B y)
  rw [L_B,L_B] at h
  rw [← h,B_L]
end Go.Q
