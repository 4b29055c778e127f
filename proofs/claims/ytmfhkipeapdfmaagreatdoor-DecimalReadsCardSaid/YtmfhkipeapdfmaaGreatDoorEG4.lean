import Derived.Test.YtmfhkipeapdfmaaGreatDoorEG3
import Derived.Test.YtmfhkipeapdfmaaGreatDoorFX
import Derived.Test.YtmfhkipeapdfmaaGreatDoorFY
import Derived.Test.YtmfhkipeapdfmaaGreatDoorProg
namespace Go.Q
open Go Go.Proofs
set_option maxRecDepth 10000
set_option maxHeartbeats 2000000
noncomputable def Ref2.lessH.j1 (m:List Int) (a:Int) (d:Int) (b:List Int) (e:Int):Option (((List Int) × Int × Int) ⊕ ((List Int))) :=
 chk (0 ≤ a ∧ a < (b.length:Int)) <|
 letk (0 + a.toNat) fun f =>
 Option.bind (b[f]?) fun g =>
 letk (IntKind.u64.wrap g) fun h =>
 letk (IntKind.u64.wrap (h - d)) fun i =>
 letk (IntKind.u32.wrap i) fun j =>
 chk (0 ≤ a ∧ a < (b.length:Int)) <|
 letk (0 + a.toNat) fun c =>
 Option.bind (b[c]?) fun n =>
 letk (b.set c j) fun l =>
 letk (IntKind.i64.wrap (a + (1:Int))) fun k =>
 some (.inl (l,e,k))
noncomputable def Ref2.lessH.j0 (d:List Int) (a:Int) (b:List Int) (c:Int):Option (((List Int) × Int × Int) ⊕ ((List Int))) :=
 chk (0 ≤ a ∧ a < (b.length:Int)) <|
 letk (0 + a.toNat) fun e =>
 Option.bind (b[e]?) fun f =>
 letk (IntKind.u64.wrap f) fun g =>
 letk (decide (g < c)) fun h =>
 bif h then
 Ref2.lessH.j1 d a c b 1
 else
 Ref2.lessH.j1 d a c b 0
noncomputable def Ref2.lessH.s0 (b:List Int) (c:List Int) (d:Int) (a:Int):Option (((List Int) × Int × Int) ⊕ ((List Int))) :=
 letk ((c.length:Int)) fun e =>
 letk (decide (a < e)) fun f =>
 bif f then
 letk ((b.length:Int)) fun g =>
 letk (decide (a < g)) fun h =>
 bif h then
 chk (0 ≤ a) <|
 Option.bind (b[a.toNat]?) fun i =>
 letk (IntKind.u64.wrap i) fun j =>
 letk (IntKind.u64.wrap (d + j)) fun k =>
 Ref2.lessH.j0 b a c k
 else
 Ref2.lessH.j0 b a c d
 else
 ((
 Option.bind (Ref2.nat.trimH c) fun l =>
 some l)).map .inr
noncomputable def Ref2.lessH.l0 (a:List Int) (b:List Int) (c:Int) (d:Int):Option ((List Int)):=loopO (fun v:(List Int) × Int × Int=>Ref2.lessH.s0 a v.1 v.2.1 v.2.2) (b,c,d)
noncomputable def Ref2.lessH (a:List Int) (b:List Int):Option ((List Int)) :=
 Ref2.lessH.l0 b a 0 0
structure Rec51 where
  f51:Int → Option ByteArray
structure Rec51.Ok (R:Rec51):Prop where
  f51_ok:∀ {n0:Int} {r:ByteArray},R.f51 n0 = some r → Gives Tryz.prog 51 [.lit (.int .i64 n0)] (.lit (.string r))
end Go.Q
