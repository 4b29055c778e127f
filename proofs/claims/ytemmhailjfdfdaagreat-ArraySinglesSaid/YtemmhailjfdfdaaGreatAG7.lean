import Derived.Test.YtemmhailjfdfdaaGreatAG6
import Derived.Test.YtemmhailjfdfdaaGreatFX
import Derived.Test.YtemmhailjfdfdaaGreatFY
import Derived.Test.YtemmhailjfdfdaaGreatProg
namespace Go.Q
open Go Go.Proofs
set_option maxRecDepth 10000
set_option maxHeartbeats 2000000
noncomputable def Ref7.Same (a0 b1:api.Array):Option Bool :=
 letk (a0.Kind == b1.Kind) fun t9 =>
 bif t9 then
 Option.bind (Ref7.SameShape a0.Shape b1.Shape) fun t15 =>
 bif t15 then
 Option.bind (Ref7.SameShape a0.Elems b1.Elems) fun t22 =>
 some t22
 else
 some false
 else
 some false
theorem Ref7.Same_ok {a0 b1:api.Array} {r:Bool} (h0:Ref7.Same a0 b1 = some r):Gives Tryz.prog 15 [api.Array.enc a0,api.Array.enc b1] (.lit (.bool r)):=by
 unfold Ref7.Same at h0
 refine W' [] Tryz.func15 ?_
 refine V' ?_
 refine V' ?_
 refine C' h0 (fun h2=>?_) fun h2=>?_
 exact R' (E:=E1') h2
 refine Gate.go (A' h2 Ref7.SameShape_ok fun t15 h3=>?_)
 rcases t15 with _ | _
 have h4:=bif_f h3
 exact R' (E:=E1') h4
 have h4:=bif_t h3
 refine Gate.go (A' h4 Ref7.SameShape_ok fun _ h5=>?_)
 exact R' (E:=E1') h5
noncomputable def Arr.Same (a0 b1:api.Array):Option Bool :=
 letk (a0.Kind == b1.Kind) fun t9 =>
 bif t9 then
 Option.bind (Slcs.Equal___int_int_ a0.Shape b1.Shape) fun t15 =>
 bif t15 then
 Option.bind (Slcs.Equal___int_int_ a0.Elems b1.Elems) fun t22 =>
 some t22
 else
 some false
 else
 some false
end Go.Q
