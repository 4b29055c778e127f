import Derived.Test.YtemmhailjfdfdaaGreatAG7
import Derived.Test.YtemmhailjfdfdaaGreatFX
import Derived.Test.YtemmhailjfdfdaaGreatFY
import Derived.Test.YtemmhailjfdfdaaGreatProg
namespace Go.Q
open Go Go.Proofs
set_option maxRecDepth 10000
set_option maxHeartbeats 2000000
noncomputable def Flt.signed (kind0 a1:Int) (sign2:Int → Option Int):Option (Int × Int) :=
 Option.bind (Flt.two kind0 0 a1 a1) fun (t17_0,t17_1,_,t17_3) =>
 letk (!t17_3) fun t24 =>
 bif t24 then
 some (0,2)
 else
 letk (t17_1.class_ == (3:Int)) fun t28 =>
 bif t28 then
 Option.bind (Flt.shape.quiet (⟨t17_0.p,t17_0.w⟩:float.shape)) fun t30 =>
 some (t30,0)
 else
 letk (IntKind.u64.wrap a1) fun t32 =>
 letk (IntKind.i64.wrap (t17_0.p + t17_0.w)) fun t37 =>
 letk (IntKind.i64.wrap (t37 - (1:Int))) fun t38 =>
 chk (0 ≤ t38) <|
 letk (IntKind.u64.wrap ((1:Int) * 2 ^ (min t38.toNat (IntKind.u64).bits))) fun t39 =>
 letk (IntKind.u64.wrap (t39 - (1:Int))) fun t40 =>
 letk (IntKind.u64.wrap (BitVec.ofInt (IntKind.u64).bits t32 &&& BitVec.ofInt (IntKind.u64).bits t40).toNat) fun t41 =>
 Option.bind (sign2 t17_1.sign) fun t45 =>
 letk (IntKind.u64.wrap t45) fun t46 =>
 letk (IntKind.i64.wrap (t17_0.p + t17_0.w)) fun t51 =>
 letk (IntKind.i64.wrap (t51 - (1:Int))) fun t52 =>
 chk (0 ≤ t52) <|
 letk (IntKind.u64.wrap (t46 * 2 ^ (min t52.toNat (IntKind.u64).bits))) fun t53 =>
 letk (IntKind.u64.wrap (BitVec.ofInt (IntKind.u64).bits t53 ||| BitVec.ofInt (IntKind.u64).bits t41).toNat) fun t55 =>
 letk (IntKind.i64.wrap t55) fun t56 =>
 some (t56,0)
theorem Flt.signed_ok {kind0 a1:Int} {sign2:Int → Option Int} {r:Int × Int} {sign2g:Nat} {sign2gc:List AV} (hsign2gc:sign2gc.all pureQ.pureQ0 = true) (hsign2:∀ a0 r,sign2 a0 = some r → Gives Tryz.prog sign2g ([J a0] ++ sign2gc) (J r)) (h0:Flt.signed kind0 a1 sign2 = some r):Gives Tryz.prog 161 [J kind0,J a1,.fn (.func sign2g) [] sign2gc] (.tup [J r.1,J r.2]):=by
 unfold Flt.signed at h0
 refine W' [] Tryz.func161 ?_
 obtain ⟨⟨t17_0,t17_1,_,_⟩,et17,h1⟩:=bind_elim h0
 refine Gate.go ?_
 refine Z' (Flt.two_ok et17) ?_
 refine V' ?_
 refine V' ?_
 refine V' ?_
 refine V' ?_
 refine V' ?_
 refine V' ?_
 refine C' h1 (fun h3=>?_) fun h3=>?_
 refine C' h3 (fun h5=>?_) fun h5=>?_
 refine N' h5 fun _ h6=>?_
 refine N' h6 fun _ h7=>?_
 refine N' h7 fun _ h8=>?_
 refine S' h8 fun h9=>?_
 refine N' h9 fun _ h10=>?_
 refine N' h10 fun _ h11=>?_
 refine N' h11 fun t41 h12=>?_
 refine DrawB.sees (Sees.of (Weak.objs (k:=57) (keep:=[0,1]) (frz:=[]) (m:=0) (ts:=[(2,.fn (.func sign2g) [] sign2gc),(8,.ptr 0 0),(9,.ptr 1 0),(12,U t41)]) (hs:=[.box [J t17_0.p,J t17_0.w],.box [J t17_1.class_,J t17_1.sign,U t17_1.m,J t17_1.e]]) rfl (by decide) rfl rfl ⟨⟨_,rfl,WO.refl rfl⟩,⟨⟨_,rfl,WO.refl rfl⟩,⟨rfl,fun _ h=>by cases h⟩⟩⟩ ⟨(.same _ (fnq hsign2gc)),(.ptr _ _ 0 rfl),(.ptr _ _ 1 rfl),.s,trivial⟩)) ?_
 refine DrawB.ofG [none,none,none,none,none,none,none,none,none,none,none,none,none,none,none,none,none] Tryz_mixed (by kernel_rfl) (by kernel_rfl) ?_
 refine D' rfl (D' rfl (D' rfl ?_))
 obtain ⟨t45,et45,h13⟩:=bind_elim h12
 refine DNodeB.of (J t45) ?_ ?_
 refine CallN.by (v:=J t45) (hsign2 _ _ et45) (allq_app rfl hsign2gc) rfl ?_
 rfl
 refine DN' h13 (fun e=>n' e rfl) fun _ h14=>?_
 refine D' rfl (D' rfl (D' rfl (D' rfl ?_)))
 refine DN' h14 (fun e=>n' e rfl) fun _ h15=>?_
 refine DN' h15 (fun e=>n' e rfl) fun _ h16=>?_
 refine DS' h16 (fun c e=>Side.mk c (n' e rfl)) fun _ h18=>?_
 refine D' rfl ?_
 refine DN' h18 (fun e=>n' e rfl) fun _ h19=>?_
 refine DN' h19 (fun e=>n' e rfl) fun _ h20=>?_
 refine D' rfl (D' rfl ?_)
 exact R' (E:=E3') h20
 refine Gate.go (A' h5 Flt.shape.quiet_ok fun _ h6=>?_)
 exact R' (E:=E3') h6
 exact R' (E:=E3') h3
noncomputable def Flt.Neg_1 (own0:Int):Option Int :=
 letk (IntKind.i64.wrap ((1:Int) - own0)) fun t4 =>
 some t4
theorem Flt.Neg_1_ok {own0 r:Int} (h0:Flt.Neg_1 own0 = some r):Gives Tryz.prog 162 [J own0] (J r):=by
 unfold Flt.Neg_1 at h0
 refine W' [] Tryz.func162 ?_
 refine N' h0 fun _ h1=>?_
 exact R' (E:=E2') h1
noncomputable def Flt.Neg (kind0 a1:Int):Option (Int × Int) :=
 Option.bind (Flt.signed kind0 a1 Flt.Neg_1) fun (t8_0,t8_1) =>
 some (t8_0,t8_1)
theorem Flt.Neg_ok {kind0 a1:Int} {r:Int × Int} (h0:Flt.Neg kind0 a1 = some r):Gives Tryz.prog 119 [J kind0,J a1] (.tup [J r.1,J r.2]):=by
 unfold Flt.Neg at h0
 refine W' [] Tryz.func119 ?_
 obtain ⟨⟨t8_0,t8_1⟩,et8,h1⟩:=bind_elim h0
 refine Gate.go ?_
 refine CallN.by (v:=.tup [J t8_0,J t8_1]) (Flt.signed_ok (show List.all [] pureQ.pureQ0 = true from rfl) (fun _ _ h=>Flt.Neg_1_ok h) et8) rfl rfl ?_
 exact R' (E:=E3') h1
noncomputable def Arr.only_ (op0:ByteArray) (a1:api.Value):Option api.Value :=
 letk (op0.toList == (⟨#[46,110,111,116,46]⟩:ByteArray).toList) fun t18 =>
 bif t18 then
 letk (a1.N == (0:Int)) fun t21 =>
 Option.bind (Arr.logical t21) fun t22 =>
 some (⟨t22.Kind,t22.N⟩:api.Value)
 else
 letk (op0.toList == (⟨#[43]⟩:ByteArray).toList) fun t25 =>
 bif t25 then
 Option.bind (Arr.bytes a1.Kind) fun t28 =>
 letk (decide (t28 > (0:Int))) fun t30 =>
 bif t30 then
 Option.bind (Flt.Neg t28 a1.N) fun (t35_0,_) =>
 Option.bind (Flt.Neg t28 t35_0) fun (t43_0,_) =>
 some (⟨a1.Kind,t43_0⟩:api.Value)
 else
 some (⟨a1.Kind,a1.N⟩:api.Value)
 else
 letk (a1.Kind == (1:Int)) fun t51 =>
 bif t51 then
 letk (IntKind.i64.wrap (0 - a1.N)) fun t54 =>
 some (⟨a1.Kind,t54⟩:api.Value)
 else
 Option.bind (Arr.bytes a1.Kind) fun t9 =>
 Option.bind (Flt.Neg t9 a1.N) fun (t12_0,_) =>
 some (⟨a1.Kind,t12_0⟩:api.Value)
theorem Arr.only__ok {op0:ByteArray} {a1 r:api.Value} (h0:Arr.only_ op0 a1 = some r):Gives Tryz.prog 69 [.lit (.string op0),api.Value.enc a1] (api.Value.enc r):=by
 unfold Arr.only_ at h0
 refine W' [] Tryz.func69 ?_
 refine V' ?_
 refine V' ?_
 refine C' h0 (fun h2=>?_) fun h2=>?_
 refine C' h2 (fun h4=>?_) fun h4=>?_
 refine C' h4 (fun h6=>?_) fun h6=>?_
 refine DrawB.ofFN 0 [.box [J a1.Kind,J a1.N],.box [J 0,J 0]] 2 2 [[0],[0],[],[0],[0],[],[],[],[],[0],[0]] [[],[],[],[],[],[],[],[],[],[],[0]] [none,none,none,none,none,none,none,none,none,none,none] Tryz_mixed (by kernel_rfl) rfl rfl rfl (by kernel_rfl) ?_
 refine FNode.rd (F:=[0]) (W:=[]) (.ptr 0 0) ?_ rfl rfl ?_
 rfl
 refine FNode.rd (F:=[0]) (W:=[]) (J a1.Kind) ?_ rfl rfl ?_
 rfl
 obtain ⟨t9,et9,h7⟩:=bind_elim h6
 refine FNode.no (W:=[]) (J t9) ?_ rfl ?_
 refine Z' (Arr.bytes_ok et9) ?_
 rfl
 refine FNode.rd (F:=[0]) (W:=[]) (.ptr 0 1) ?_ rfl rfl ?_
 rfl
 refine FNode.rd (F:=[0]) (W:=[]) (J a1.N) ?_ rfl rfl ?_
 rfl
 obtain ⟨⟨t12_0,t12_1⟩,et12,h8⟩:=bind_elim h7
 refine FNode.no (W:=[]) (.tup [J t12_0,J t12_1]) ?_ rfl ?_
 refine Z' (Flt.Neg_ok et12) ?_
 rfl
 refine FNode.no (W:=[]) (.tup [J t12_0,J t12_1]) ?_ rfl ?_
 rfl
 refine FNode.no (W:=[]) (J t12_0) ?_ rfl ?_
 rfl
 refine FNode.no (W:=[]) (J t12_1) ?_ rfl ?_
 rfl
 refine FNode.rd (F:=[0]) (W:=[]) (.ptr 0 1) ?_ rfl rfl ?_
 rfl
 refine FNode.pl (F:=[0]) (W:=[0]) (.undef) [.box [J a1.Kind,J t12_0],.box [J 0,J 0]] ?_ rfl rfl rfl rfl ?_
 refine V' ?_
 rfl
 refine V' ?_
 exact R' (E:=E11') h8
 refine N' h6 fun _ h7=>?_
 refine V' ?_
 refine V' ?_
 exact R' (E:=E11') h7
 refine Gate.go (A' h4 Arr.bytes_ok fun _ h5=>?_)
 refine C' h5 (fun h7=>?_) fun h7=>?_
 refine V' ?_
 exact R' (E:=E11') h7
 obtain ⟨⟨_,_⟩,et35,h8⟩:=bind_elim h7
 refine Gate.go ?_
 refine Z' (Flt.Neg_ok et35) ?_
 refine V' ?_
 obtain ⟨⟨_,_⟩,et43,h9⟩:=bind_elim h8
 refine Gate.go ?_
 refine Z' (Flt.Neg_ok et43) ?_
 refine V' ?_
 refine V' ?_
 exact R' (E:=E11') h9
 refine N' h2 fun _ h3=>?_
 refine Gate.go (A' h3 Arr.logical_ok fun _ h4=>?_)
 refine V' ?_
 exact R' (E:=E11') h4
noncomputable def Ref1.Neg (kind0 a1:Int):Option (Int × Int) :=
 Option.bind (Ref1.Valid kind0 a1) fun t8 =>
 letk (!t8) fun t9 =>
 bif t9 then
 some (0,2)
 else
 Option.bind (Ref1.negative kind0 a1) fun t12 =>
 some (t12,0)
theorem Ref1.Neg_ok {kind0 a1:Int} {r:Int × Int} (h0:Ref1.Neg kind0 a1 = some r):Gives Tryz.prog 120 [J kind0,J a1] (.tup [J r.1,J r.2]):=by
 unfold Ref1.Neg at h0
 refine W' [] Tryz.func120 ?_
 refine Gate.go (A' h0 Ref1.Valid_ok fun _ h1=>?_)
 refine C' h1 (fun h3=>?_) fun h3=>?_
 refine Gate.go (A' h3 Ref1.negative_ok fun _ h4=>?_)
 exact R' (E:=E3') h4
 exact R' (E:=E3') h3
noncomputable def Ref7.only_.j1 (a3_0_1 a3_1_1 t4_0_1 t4_1_1 n5:Int):Option api.Value :=
 some (⟨a3_0_1,n5⟩:api.Value)
noncomputable def Ref7.only_.j0 (op0:ByteArray) (a3_0 a3_1 t4_0 t4_1:Int):Option api.Value :=
 Option.bind (Ref7.Bytes a3_0) fun t34 =>
 Option.bind (Ref1.Neg t34 a3_1) fun (t37_0,_) =>
 letk (op0.toList == (⟨#[43]⟩:ByteArray).toList) fun t41 =>
 bif t41 then
 Option.bind (Ref7.Bytes a3_0) fun t45 =>
 Option.bind (Ref1.Neg t45 t37_0) fun (t47_0,_) =>
 Ref7.only_.j1 a3_0 a3_1 t4_0 t4_1 t47_0
 else
 Ref7.only_.j1 a3_0 a3_1 t4_0 t4_1 t37_0
noncomputable def Ref7.only_.j2 (op0:ByteArray) (a1:api.Value) (t14:Bool):Option api.Value :=
 bif t14 then
 some (⟨a1.Kind,a1.N⟩:api.Value)
 else
 letk (a1.Kind == (1:Int)) fun t26 =>
 bif t26 then
 letk (IntKind.i64.wrap (0 - a1.N)) fun t29 =>
 some (⟨1,t29⟩:api.Value)
 else
 Ref7.only_.j0 op0 a1.Kind a1.N 0 0
noncomputable def Ref7.only_ (op0:ByteArray) (a1:api.Value):Option api.Value :=
 letk (op0.toList == (⟨#[46,110,111,116,46]⟩:ByteArray).toList) fun t9 =>
 bif t9 then
 letk (a1.N == (0:Int)) fun t12 =>
 Option.bind (Ref7.truth t12) fun t13 =>
 some (⟨t13.Kind,t13.N⟩:api.Value)
 else
 letk (a1.Kind == (1:Int)) fun t17 =>
 bif t17 then
 letk (op0.toList == (⟨#[43]⟩:ByteArray).toList) fun t20 =>
 Ref7.only_.j2 op0 a1 t20
 else
 Ref7.only_.j2 op0 a1 false
theorem Ref7.only__ok {op0:ByteArray} {a1 r:api.Value} (h0:Ref7.only_ op0 a1 = some r):Gives Tryz.prog 70 [.lit (.string op0),api.Value.enc a1] (api.Value.enc r):=by
 unfold Ref7.only_ at h0
 refine W' [(0,7),(0,10),(24,9)] Tryz.func70 ?_
 refine V' ?_
 refine V' ?_
 refine CutN.of (fun s=>∃ a3_0 a3_1 t4_0 t4_1,Ref7.only_.j0 op0 a3_0 a3_1 t4_0 t4_1 = some r ∧ s = ⟨54,[(0,.lit (.string op0)),(3,.ptr 0 0),(4,.ptr 1 0)],[.box [J a3_0,J a3_1],.box [J t4_0,J t4_1]]⟩) ?_ ?_
 refine C' h0 (fun h2=>?_) fun h2=>?_
 refine CutN.of (fun s=>∃ t14,Ref7.only_.j2 op0 a1 t14 = some r ∧ s = ⟨54,[(0,.lit (.string op0)),(3,.ptr 0 0),(4,.ptr 1 0),(14,.lit (.bool t14))],[.box [J a1.Kind,J a1.N],.box [J 0,J 0]]⟩) ?_ ?_
 refine C' h2 (fun h4=>?_) fun h4=>?_
 exact B' [0,1] ⟨_,h4,rfl⟩
 refine N' h4 fun _ h5=>?_
 exact B' [0,1] ⟨_,h5,rfl⟩
 rintro s ⟨t14,hj0,rfl⟩
 unfold Ref7.only_.j2 at hj0
 rcases t14 with _ | _
 have hj1:=bif_f hj0
 refine C' hj1 (fun hj3=>?_) fun hj3=>?_
 exact B' [0,1] ⟨_,_,_,_,hj3,rfl⟩
 refine N' hj3 fun _ hj4=>?_
 refine Gate.go ?_
 refine V' ?_
 refine V' ?_
 exact R' (E:=E11') hj4
 have hj1:=bif_t hj0
 refine V' ?_
 exact R' (E:=E11') hj1
 refine N' h2 fun _ h3=>?_
 refine Gate.go (A' h3 Ref7.truth_ok fun _ h4=>?_)
 refine V' ?_
 exact R' (E:=E11') h4
 rintro s ⟨_,_,_,_,hj0,rfl⟩
 unfold Ref7.only_.j0 at hj0
 refine DrawB.ofG [none,none,none,none,none,none,none,none,none,none,none] Tryz_mixed (by kernel_rfl) (by kernel_rfl) ?_
 refine D' rfl (D' rfl ?_)
 refine DC' hj0 (fun e=>Z' (Ref7.Bytes_ok e) rfl) fun _ hj1=>?_
 refine D' rfl (D' rfl ?_)
 obtain ⟨⟨t37_0,t37_1⟩,et37,hj2⟩:=bind_elim hj1
 refine DNodeB.of (.tup [J t37_0,J t37_1]) ?_ ?_
 refine Z' (Ref1.Neg_ok et37) ?_
 rfl
 refine D' rfl (D' rfl (D' rfl (D' rfl (D' rfl ?_))))
 refine CutN.of (fun s=>∃ a3_0_1 a3_1_1 t4_0_1 t4_1_1 n5,Ref7.only_.j1 a3_0_1 a3_1_1 t4_0_1 t4_1_1 n5 = some r ∧ s = ⟨54,[(3,.ptr 0 0),(4,.ptr 1 0),(5,J n5)],[.box [J a3_0_1,J a3_1_1],.box [J t4_0_1,J t4_1_1]]⟩) ?_ ?_
 refine C' hj2 (fun hj4=>?_) fun hj4=>?_
 exact B' [0,1] ⟨_,_,_,_,_,hj4,rfl⟩
 refine Gate.go (A' hj4 Ref7.Bytes_ok fun _ hj5=>?_)
 obtain ⟨⟨_,_⟩,et47,hj6⟩:=bind_elim hj5
 refine Gate.go ?_
 refine Z' (Ref1.Neg_ok et47) ?_
 exact B' [0,1] ⟨_,_,_,_,_,hj6,rfl⟩
 rintro s ⟨_,_,_,_,_,hj0,rfl⟩
 unfold Ref7.only_.j1 at hj0
 refine Gate.go ?_
 refine V' ?_
 refine V' ?_
 exact R' (E:=E11') hj0
noncomputable def Arr.Single_1 (i0:Int) (t1:ByteArray) (t2:api.Array):Option (api.Value × Int) :=
 Option.bind (Arr.at_ t2 i0) fun t9 =>
 Option.bind (Arr.only_ t1 t9) fun t10 =>
 some ((⟨t10.Kind,t10.N⟩:api.Value),0)
theorem Arr.Single_1_ok {i0:Int} {t1:ByteArray} {t2:api.Array} {r:api.Value × Int} (h0:Arr.Single_1 i0 t1 t2 = some r):Gives Tryz.prog 74 [J i0,.iptr (.lit (.string t1)),.iptr (api.Array.enc t2)] (.tup [api.Value.enc r.1,J r.2]):=by
 unfold Arr.Single_1 at h0
 refine W' [] Tryz.func74 ?_
 refine V' ?_
 refine DrawB.ofFN 0 [.box [J 0,J 0]] 1 1 [[],[],[],[],[],[0],[]] [[],[],[],[],[],[0],[]] [none,none,none,none,none,none,none] Tryz_mixed (by kernel_rfl) rfl rfl rfl (by kernel_rfl) ?_
 refine FNode.no (W:=[]) (.lit (.string t1)) ?_ rfl ?_
 rfl
 refine FNode.no (W:=[]) (api.Array.enc t2) ?_ rfl ?_
 rfl
 refine FNode.no (W:=[]) (J i0) ?_ rfl ?_
 rfl
 obtain ⟨t9,et9,h1⟩:=bind_elim h0
 refine FNode.no (W:=[]) (api.Value.enc t9) ?_ rfl ?_
 refine Z' (Arr.at__ok et9) ?_
 rfl
 obtain ⟨t10,et10,h2⟩:=bind_elim h1
 refine FNode.no (W:=[]) (api.Value.enc t10) ?_ rfl ?_
 refine Z' (Arr.only__ok et10) ?_
 rfl
 refine FNode.pl (F:=[0]) (W:=[0]) (.undef) [.box [J t10.Kind,J t10.N]] ?_ rfl rfl rfl rfl ?_
 refine V' ?_
 rfl
 refine FNode.no (W:=[]) (J 0) ?_ rfl ?_
 rfl
 exact R' (E:=E10') h2
noncomputable def Arr.Single (op0:ByteArray) (a1:api.Array):Option (api.Array × Int) :=
 Option.bind (Arr.Valid (⟨a1.Kind,a1.Shape,a1.Elems⟩:api.Array)) fun t8 =>
 letk (!t8) fun t9 =>
 bif t9 then
 some ((⟨0,[],[]⟩:api.Array),2)
 else
 Option.bind (Arr.Kind op0 a1.Kind 0) fun t14 =>
 letk (t14 == (0:Int)) fun t16 =>
 bif t16 then
 some ((⟨0,[],[]⟩:api.Array),70)
 else
 Option.bind (Slcs.Clone___int_int_ a1.Shape) fun t21 =>
 Option.bind (Arr.each t14 t21 (fun z0_=>Arr.Single_1 z0_ op0 (⟨a1.Kind,a1.Shape,a1.Elems⟩:api.Array))) fun (t23_0,t23_1) =>
 some ((⟨t23_0.Kind,t23_0.Shape,t23_0.Elems⟩:api.Array),t23_1)
theorem Arr.Single_ok {op0:ByteArray} {a1:api.Array} {r:api.Array × Int} (h0:Arr.Single op0 a1 = some r):Gives Tryz.prog 33 [.lit (.string op0),api.Array.enc a1] (.tup [api.Array.enc r.1,J r.2]):=by
 unfold Arr.Single at h0
 refine W' [] Tryz.func33 ?_
 refine V' ?_
 refine V' ?_
 refine V' ?_
 refine Gate.go (A' h0 Arr.Valid_ok fun _ h1=>?_)
 refine C' h1 (fun h3=>?_) fun h3=>?_
 refine Gate.go (A' h3 Arr.Kind_ok fun t14 h4=>?_)
 refine C' h4 (fun h6=>?_) fun h6=>?_
 obtain ⟨t21,et21,h7⟩:=bind_elim h6
 refine Gate.go ?_
 refine CallN.fresh (s:=1) (es:=t21.map (eI .i64)) (Slcs.Clone___int_int__ok et21) rfl ?_
 refine Gate.weak (Sees.of (Weak.objs (k:=26) (keep:=[2,3]) (frz:=[0,1]) (m:=0) (ts:=[(2,.iptr (.lit (.string op0))),(3,.iptr (.agg [J a1.Kind,VI' a1.Shape,VI' a1.Elems])),(4,.ptr 0 0),(18,J t14),(21,.ref 1 0 ((t21.map (eI .i64)).length))]) (hs:=[.box [J 0,.nils,.nils],.arr 1 (t21.map (eI .i64))]) rfl (by decide) rfl rfl ⟨⟨_,rfl,WO.refl rfl⟩,⟨⟨_,rfl,.arr _ _⟩,⟨rfl,fun _ h=>by cases h⟩⟩⟩ ⟨(.ptrFrz 0 _ (by decide) rfl rfl),(.ptrFrz 1 _ (by decide) rfl rfl),(.ptr _ _ 0 rfl),.s,(.ref _ _ _ 1 rfl),trivial⟩)) ?_
 obtain ⟨⟨t23_0,t23_1⟩,et23,h8⟩:=bind_elim h7
 refine Gate.weak (Sees.of (Weak.objs (k:=26) (keep:=[0]) (frz:=[1]) (m:=0) (ts:=[(4,.ptr 0 0),(18,J t14),(21,VI' t21),(22,.fn (.func 74) [] [.iptr (.lit (.string op0)),.iptr (.agg [J a1.Kind,VI' a1.Shape,VI' a1.Elems])])]) (hs:=[.box [J 0,.nils,.nils]]) rfl (by decide) rfl rfl ⟨⟨_,rfl,WO.refl rfl⟩,⟨rfl,fun _ h=>by cases h⟩⟩ ⟨(.ptr _ _ 0 rfl),.s,(WV.all (k:=1) (by decide) rfl),(.same _ (fnq rfl)),trivial⟩)) ?_
 refine CallN.by (v:=.tup [api.Array.enc t23_0,J t23_1]) (Arr.each_ok (show List.all [.iptr (.lit (.string op0)),.iptr (.agg [J a1.Kind,VI' a1.Shape,VI' a1.Elems])] pureQ.pureQ0 = true from rfl) (fun _ r h=>Arr.Single_1_ok h) et23) rfl rfl ?_
 refine V' ?_
 exact R' (E:=E14') h8
 refine Gate.go ?_
 refine V' ?_
 refine V' ?_
 have eh6_0:=Option.some.inj h6
 subst eh6_0
 exact Returns.frozen (r:=.tup [api.Array.enc ((⟨0,[],[]⟩:api.Array)),J 70]) [] rfl rfl (WV.tups ⟨(WV.aggs ⟨.s,(.nilsVs _),(.nilsVs _),trivial⟩),.s,trivial⟩) ⟨rfl,rfl⟩
 refine Gate.go ?_
 refine V' ?_
 refine V' ?_
 have eh3_0:=Option.some.inj h3
 subst eh3_0
 exact Returns.frozen (r:=.tup [api.Array.enc ((⟨0,[],[]⟩:api.Array)),J 2]) [] rfl rfl (WV.tups ⟨(WV.aggs ⟨.s,(.nilsVs _),(.nilsVs _),trivial⟩),.s,trivial⟩) ⟨rfl,rfl⟩
noncomputable def Ref7.Single.s0 (op0:ByteArray) (a3_0:Int) (a3_1 a3_2:List Int) (t4_0:Int) (t4_1 t4_2:List Int) (out6_0:Int) (out6_1 out6_2:List Int) (i7:Int):Option ((Int × (List Int) × (List Int) × Int × (List Int) × (List Int) × Int × (List Int) × (List Int) × Int) ⊕ (api.Array × Int)) :=
 letk ((a3_2.length:Int)) fun t30 =>
 letk (decide (i7 < t30)) fun t31 =>
 bif t31 then
 Option.bind (Ref7.At (⟨a3_0,a3_1,a3_2⟩:api.Array) i7) fun t39 =>
 Option.bind (Ref7.only_ op0 t39) fun t40 =>
 chk ((out6_2.length + ([t40.N]).length) * 8 ≤ 140737488355328) <|
 letk (out6_2 ++ ([t40.N])) fun t43 =>
 letk (IntKind.i64.wrap (i7 + (1:Int))) fun t33 =>
 some (.inl (a3_0,a3_1,a3_2,t4_0,t4_1,t4_2,out6_0,out6_1,t43,t33))
 else
 some (.inr ((⟨out6_0,out6_1,out6_2⟩:api.Array),0))
noncomputable def Ref7.Single.l0 (op0:ByteArray) (a3_0:Int) (a3_1 a3_2:List Int) (t4_0:Int) (t4_1 t4_2:List Int) (out6_0:Int) (out6_1 out6_2:List Int) (i7:Int):Option (api.Array × Int):=loopO (fun v:Int × (List Int) × (List Int) × Int × (List Int) × (List Int) × Int × (List Int) × (List Int) × Int=>Ref7.Single.s0 op0 v.1 v.2.1 v.2.2.1 v.2.2.2.1 v.2.2.2.2.1 v.2.2.2.2.2.1 v.2.2.2.2.2.2.1 v.2.2.2.2.2.2.2.1 v.2.2.2.2.2.2.2.2.1 v.2.2.2.2.2.2.2.2.2) (a3_0,a3_1,a3_2,t4_0,t4_1,t4_2,out6_0,out6_1,out6_2,i7)
noncomputable def Ref7.Single (op0:ByteArray) (a1:api.Array):Option (api.Array × Int) :=
 Option.bind (Ref7.Valid (⟨a1.Kind,a1.Shape,a1.Elems⟩:api.Array)) fun t10 =>
 letk (!t10) fun t11 =>
 bif t11 then
 some ((⟨0,[],[]⟩:api.Array),2)
 else
 Option.bind (Ref7.Kind op0 a1.Kind 0) fun t17 =>
 letk (t17 == (0:Int)) fun t18 =>
 bif t18 then
 some ((⟨0,[],[]⟩:api.Array),70)
 else
 chk (((([]:List Int)).length + a1.Shape.length) * 8 ≤ 140737488355328) <|
 letk ((([]:List Int)) ++ a1.Shape) fun t25 =>
 Ref7.Single.l0 op0 a1.Kind a1.Shape a1.Elems 0 ([]) ([]) a1.Kind t25 ([]) 0
theorem Ref7.Single_ok {op0:ByteArray} {a1:api.Array} {r:api.Array × Int} (h0:Ref7.Single op0 a1 = some r):Gives Tryz.prog 34 [.lit (.string op0),api.Array.enc a1] (.tup [api.Array.enc r.1,J r.2]):=by
 unfold Ref7.Single at h0
 refine W' [] Tryz.func34 ?_
 refine V' ?_
 refine V' ?_
 refine Gate.go (A' h0 Ref7.Valid_ok fun _ h1=>?_)
 refine C' h1 (fun h3=>?_) fun h3=>?_
 refine Gate.go (A' h3 Ref7.Kind_ok fun _ h4=>?_)
 refine C' h4 (fun h6=>?_) fun h6=>?_
 refine DrawB.ofFN 3 [.box [J a1.Kind,VI' a1.Shape,VI' a1.Elems],.box [J 0,.nils,.nils],.arr 1 [],.arr 1 [],.arr 1 []] 2 5 [[0],[0],[2],[0],[0],[2,3],[3],[4],[3,4]] [[],[],[2],[],[],[2,3],[],[4],[4]] [none,none,some 2,none,none,some 3,none,some 4,none] Tryz_mixed (by kernel_rfl) rfl rfl rfl (by kernel_rfl) ?_
 refine FNode.rd (F:=[0]) (W:=[]) (.ptr 0 0) ?_ rfl rfl ?_
 rfl
 refine FNode.rd (F:=[0]) (W:=[]) (J a1.Kind) ?_ rfl rfl ?_
 rfl
 refine FNode.nw (F:=[2]) (W:=[2]) (.ref 5 0 (((([]:List Int)).map (eI .i64)).length)) (.ref 2 0 (((([]:List Int)).map (eI .i64)).length)) [.box [J a1.Kind,VI' a1.Shape,VI' a1.Elems],.box [J 0,.nils,.nils],.arr 1 ((([]:List Int)).map (eI .i64)),.arr 1 [],.arr 1 []] [.dead,.dead,.arr 1 [],.dead,.dead] (.arr 1 ((([]:List Int)).map (eI .i64))) ?_ rfl rfl rfl rfl ⟨_,rfl⟩ (.inr ⟨0,((([]:List Int)).map (eI .i64)).length,rfl,rfl⟩) rfl rfl ?_
 refine Nm.mk ⟨(([]:List Int)).map (eI .i64),rfl,?_⟩
 rfl
 refine FNode.rd (F:=[0]) (W:=[]) (.ptr 0 1) ?_ rfl rfl ?_
 rfl
 refine FNode.rd (F:=[0]) (W:=[]) (VI' a1.Shape) ?_ rfl rfl ?_
 rfl
 obtain ⟨ch7,h7⟩:=chk_elim h6
 obtain ⟨t25,et25,h8⟩:=letk_elim h7
 refine FNode.nw (F:=[2,3]) (W:=[2,3]) (.ref 5 0 ((t25.map (eI .i64)).length)) (.ref 3 0 ((t25.map (eI .i64)).length)) [.box [J a1.Kind,VI' a1.Shape,VI' a1.Elems],.box [J 0,.nils,.nils],.dead,.arr 1 (t25.map (eI .i64)),.arr 1 []] [.dead,.dead,.dead,.arr 1 [],.dead] (.arr 1 (t25.map (eI .i64))) ?_ rfl rfl rfl rfl ⟨_,rfl⟩ (.inr ⟨0,(t25.map (eI .i64)).length,rfl,rfl⟩) rfl rfl ?_
 refine Side.mk (full_le _) ?_
 refine Side.mk (one_map (fun _ _ hc=>by simp only [AV.cells,List.mem_singleton] at hc; subst hc; rfl)) ?_
 refine Side.mk (side_rv (by decide) ch7) ?_
 refine Nm.mk ⟨t25.map (eI .i64),by rw [et25]; exact app_rv,?_⟩
 rfl
 refine FNode.rd (F:=[3]) (W:=[]) (.agg [J a1.Kind,.ref 3 0 ((t25.map (eI .i64)).length),.nils]) ?_ rfl rfl ?_
 refine V' ?_
 rfl
 refine FNode.nw (F:=[4]) (W:=[4]) (.ptr 5 0) (.ptr 4 0) [.box [J a1.Kind,VI' a1.Shape,VI' a1.Elems],.box [J 0,.nils,.nils],.dead,.arr 1 (t25.map (eI .i64)),.box [J 0,.nils,.nils]] [.dead,.dead,.dead,.dead,.arr 1 []] (.box [J 0,.nils,.nils]) ?_ rfl rfl rfl rfl ⟨_,rfl⟩ (.inl ⟨0,rfl,rfl⟩) rfl rfl ?_
 refine V' ?_
 rfl
 refine FNode.pl (F:=[3,4]) (W:=[4]) (.undef) [.box [J a1.Kind,VI' a1.Shape,VI' a1.Elems],.box [J 0,.nils,.nils],.dead,.arr 1 (t25.map (eI .i64)),.box [J a1.Kind,.ref 3 0 ((t25.map (eI .i64)).length),.nils]] ?_ rfl rfl rfl rfl ?_
 refine V' ?_
 rfl
 unfold Ref7.Single.l0 at h8
 refine LoopB.of (σ:=Int × (List Int) × (List Int) × Int × (List Int) × (List Int) × Int × (List Int) × (List Int) × Int) (ρ:=api.Array × Int) (fun v:Int × (List Int) × (List Int) × Int × (List Int) × (List Int) × Int × (List Int) × (List Int) × Int=>Ref7.Single.s0 op0 v.1 v.2.1 v.2.2.1 v.2.2.2.1 v.2.2.2.2.1 v.2.2.2.2.2.1 v.2.2.2.2.2.2.1 v.2.2.2.2.2.2.2.1 v.2.2.2.2.2.2.2.2.1 v.2.2.2.2.2.2.2.2.2) (fun v=>(⟨46,[(0,.lit (.string op0)),(3,.ptr 0 0),(4,.ptr 1 0),(6,.ptr 2 0),(7,J v.2.2.2.2.2.2.2.2.2)],[.box [J v.1,VI' v.2.1,VI' v.2.2.1],.box [J v.2.2.2.1,VI' v.2.2.2.2.1,VI' v.2.2.2.2.2.1],.box [J v.2.2.2.2.2.2.1,VI' v.2.2.2.2.2.2.2.1,.ref 3 0 ((v.2.2.2.2.2.2.2.2.1.map (eI .i64)).length)],.arr 1 (v.2.2.2.2.2.2.2.2.1.map (eI .i64))]⟩:St)) (a1.Kind,a1.Shape,a1.Elems,0,[],[],a1.Kind,t25,[],0) h8 (BackS.by rfl (Sees.of (Weak.objs (keep:=[0,1,4]) (frz:=[3]) (m:=1) rfl (by decide) rfl rfl ⟨⟨_,rfl,WO.boxs ⟨.s,.s,.s,trivial⟩⟩,⟨⟨_,rfl,WO.boxs ⟨.s,(.nilsVs _),(.nilsVs _),trivial⟩⟩,⟨⟨_,rfl,WO.boxs ⟨.s,(WV.all (k:=3) (by decide) rfl),(.nilsRef 3 (by decide) (by decide)),trivial⟩⟩,⟨rfl,fun _ ho=>by simp only [List.mem_cons,List.not_mem_nil,or_false] at ho; exact ⟨_,ho⟩⟩⟩⟩⟩ ⟨.s,(.ptr _ _ 0 rfl),(.ptr _ _ 1 rfl),(.ptr _ _ 2 rfl),.s,trivial⟩))) ?_
 rintro _ ⟨a3_0,a3_1,a3_2,t4_0,t4_1,t4_2,out6_0,out6_1,out6_2,i7⟩ x1 hs0_0 hl1 hr1
 replace hs0_0:Ref7.Single.s0 op0 a3_0 a3_1 a3_2 t4_0 t4_1 t4_2 out6_0 out6_1 out6_2 i7 = some x1:=hs0_0
 unfold Ref7.Single.s0 at hs0_0
 obtain ⟨t30,et30,hs0_1⟩:=letk_elim hs0_0
 refine Nm.mk ⟨t30,by rw [et30,List.length_map],?_⟩
 refine C' hs0_1 (fun hs0_3=>?_) fun hs0_3=>?_
 have ehs0_3u_0:=hr1 _ (Option.some.inj hs0_3).symm
 have hs0_3u:=congrArg some ehs0_3u_0
 refine V' ?_
 have ehs0_3u_0:=Option.some.inj hs0_3u
 subst ehs0_3u_0
 exact Returns.frozen (r:=.tup [api.Array.enc ((⟨out6_0,out6_1,out6_2⟩:api.Array)),J 0]) [3] rfl rfl (WV.tups ⟨(WV.aggs ⟨.s,.s,(WV.all (k:=3) (by decide) rfl),trivial⟩),.s,trivial⟩) ⟨rfl,rfl⟩
 refine L' [0,1,2,3] [0,3,4,6,7] ?_
 refine DrawB.ofFN 2 [.box [J a3_0,VI' a3_1,VI' a3_2],.box [J t4_0,VI' t4_1,VI' t4_2],.box [J out6_0,VI' out6_1,.ref 3 0 ((out6_2.map (eI .i64)).length)],.arr 1 (out6_2.map (eI .i64)),.arr 1 [],.arr 1 []] 4 6 [[2,3],[2,3],[],[0],[],[],[],[],[4],[3,4,5],[2,3],[2,3,5]] [[],[],[],[],[],[],[],[],[4],[3,5],[],[2]] [none,none,none,none,none,none,none,none,some 4,some 5,none,none] Tryz_mixed (by kernel_rfl) rfl rfl rfl (by kernel_rfl) ?_
 refine FNode.rd (F:=[2,3]) (W:=[]) (.ptr 2 2) ?_ rfl rfl ?_
 rfl
 refine FNode.rd (F:=[2,3]) (W:=[]) (.ref 3 0 ((out6_2.map (eI .i64)).length)) ?_ rfl rfl ?_
 rfl
 refine FNode.no (W:=[]) (.lit (.string op0)) ?_ rfl ?_
 rfl
 refine FNode.rd (F:=[0]) (W:=[]) (.agg [J a3_0,VI' a3_1,VI' a3_2]) ?_ rfl rfl ?_
 rfl
 refine FNode.no (W:=[]) (J i7) ?_ rfl ?_
 rfl
 obtain ⟨t39,et39,hs0_4⟩:=bind_elim hs0_3
 refine FNode.no (W:=[]) (api.Value.enc t39) ?_ rfl ?_
 refine Z' (Ref7.At_ok et39) ?_
 rfl
 obtain ⟨t40,et40,hs0_5⟩:=bind_elim hs0_4
 refine FNode.no (W:=[]) (api.Value.enc t40) ?_ rfl ?_
 refine Z' (Ref7.only__ok et40) ?_
 rfl
 refine FNode.no (W:=[]) (J t40.N) ?_ rfl ?_
 rfl
 refine FNode.nw (F:=[4]) (W:=[4]) (.ref 6 0 ((([t40.N]).map (eI .i64)).length)) (.ref 4 0 ((([t40.N]).map (eI .i64)).length)) [.box [J a3_0,VI' a3_1,VI' a3_2],.box [J t4_0,VI' t4_1,VI' t4_2],.box [J out6_0,VI' out6_1,.ref 3 0 ((out6_2.map (eI .i64)).length)],.arr 1 (out6_2.map (eI .i64)),.arr 1 (([t40.N]).map (eI .i64)),.arr 1 []] [.dead,.dead,.dead,.dead,.arr 1 [],.dead] (.arr 1 (([t40.N]).map (eI .i64))) ?_ rfl rfl rfl rfl ⟨_,rfl⟩ (.inr ⟨0,(([t40.N]).map (eI .i64)).length,rfl,rfl⟩) rfl rfl ?_
 refine Nm.mk ⟨([t40.N]).map (eI .i64),rfl,?_⟩
 rfl
 obtain ⟨chs0_6,hs0_6⟩:=chk_elim hs0_5
 obtain ⟨t43,et43,hs0_7⟩:=letk_elim hs0_6
 refine FNode.nw (F:=[3,4,5]) (W:=[3,5]) (.ref 6 0 ((t43.map (eI .i64)).length)) (.ref 5 0 ((t43.map (eI .i64)).length)) [.box [J a3_0,VI' a3_1,VI' a3_2],.box [J t4_0,VI' t4_1,VI' t4_2],.box [J out6_0,VI' out6_1,.ref 3 0 ((out6_2.map (eI .i64)).length)],.dead,.arr 1 (([t40.N]).map (eI .i64)),.arr 1 (t43.map (eI .i64))] [.dead,.dead,.dead,.dead,.arr 1 (([t40.N]).map (eI .i64)),.arr 1 []] (.arr 1 (t43.map (eI .i64))) ?_ rfl rfl rfl rfl ⟨_,rfl⟩ (.inr ⟨0,(t43.map (eI .i64)).length,rfl,rfl⟩) rfl rfl ?_
 refine Side.mk (full_le _) ?_
 refine Side.mk ⟨full_le _,one_map (fun _ _ hc=>by simp only [AV.cells,List.mem_singleton] at hc; subst hc; rfl)⟩ ?_
 refine Side.mk (side_rr (by decide) chs0_6) ?_
 refine Nm.mk ⟨t43.map (eI .i64),by rw [et43]; exact app_rr (m:=[t40.N]),?_⟩
 rfl
 refine FNode.rd (F:=[2,3]) (W:=[]) (.ptr 2 2) ?_ rfl rfl ?_
 rfl
 refine FNode.pl (F:=[2,3,5]) (W:=[2]) (.undef) [.box [J a3_0,VI' a3_1,VI' a3_2],.box [J t4_0,VI' t4_1,VI' t4_2],.box [J out6_0,VI' out6_1,.ref 5 0 ((t43.map (eI .i64)).length)],.dead,.arr 1 (([t40.N]).map (eI .i64)),.arr 1 (t43.map (eI .i64))] ?_ rfl rfl rfl rfl ?_
 refine V' ?_
 rfl
 refine N' hs0_7 fun _ hs0_8=>?_
 exact B' [0,1,2,5] ⟨_,hl1 _ (Option.some.inj hs0_8).symm,rfl⟩
 refine Gate.go ?_
 refine V' ?_
 refine V' ?_
 have eh6_0:=Option.some.inj h6
 subst eh6_0
 exact Returns.frozen (r:=.tup [api.Array.enc ((⟨0,[],[]⟩:api.Array)),J 70]) [] rfl rfl (WV.tups ⟨(WV.aggs ⟨.s,(.nilsVs _),(.nilsVs _),trivial⟩),.s,trivial⟩) ⟨rfl,rfl⟩
 refine Gate.go ?_
 refine V' ?_
 refine V' ?_
 have eh3_0:=Option.some.inj h3
 subst eh3_0
 exact Returns.frozen (r:=.tup [api.Array.enc ((⟨0,[],[]⟩:api.Array)),J 2]) [] rfl rfl (WV.tups ⟨(WV.aggs ⟨.s,(.nilsVs _),(.nilsVs _),trivial⟩),.s,trivial⟩) ⟨rfl,rfl⟩
noncomputable def Arr.Convert_1 (i0 t1:Int) (t2:api.Array):Option (api.Value × Int) :=
 Option.bind (Arr.at_ t2 i0) fun t9 =>
 Option.bind (Arr.to t1 t9) fun (t10_0,t10_1) =>
 some ((⟨t10_0.Kind,t10_0.N⟩:api.Value),t10_1)
theorem Arr.Convert_1_ok {i0 t1:Int} {t2:api.Array} {r:api.Value × Int} (h0:Arr.Convert_1 i0 t1 t2 = some r):Gives Tryz.prog 75 [J i0,.iptr (J t1),.iptr (api.Array.enc t2)] (.tup [api.Value.enc r.1,J r.2]):=by
 unfold Arr.Convert_1 at h0
 refine W' [] Tryz.func75 ?_
 refine V' ?_
 refine DrawB.ofFN 0 [.box [J 0,J 0]] 1 1 [[],[],[],[],[],[],[],[0],[]] [[],[],[],[],[],[],[],[0],[]] [none,none,none,none,none,none,none,none,none] Tryz_mixed (by kernel_rfl) rfl rfl rfl (by kernel_rfl) ?_
 refine FNode.no (W:=[]) (J t1) ?_ rfl ?_
 rfl
 refine FNode.no (W:=[]) (api.Array.enc t2) ?_ rfl ?_
 rfl
 refine FNode.no (W:=[]) (J i0) ?_ rfl ?_
 rfl
 obtain ⟨t9,et9,h1⟩:=bind_elim h0
 refine FNode.no (W:=[]) (api.Value.enc t9) ?_ rfl ?_
 refine Z' (Arr.at__ok et9) ?_
 rfl
 obtain ⟨⟨t10_0,t10_1⟩,et10,h2⟩:=bind_elim h1
 refine FNode.no (W:=[]) (.tup [api.Value.enc t10_0,J t10_1]) ?_ rfl ?_
 refine Z' (Arr.to_ok et10) ?_
 rfl
 refine FNode.no (W:=[]) (api.Value.enc t10_0) ?_ rfl ?_
 rfl
 refine FNode.no (W:=[]) (J t10_1) ?_ rfl ?_
 rfl
 refine FNode.pl (F:=[0]) (W:=[0]) (.undef) [.box [J t10_0.Kind,J t10_0.N]] ?_ rfl rfl rfl rfl ?_
 refine V' ?_
 rfl
 refine FNode.no (W:=[]) (J t10_1) ?_ rfl ?_
 rfl
 exact R' (E:=E10') h2
noncomputable def Arr.Convert.j1 (kind2_1 a3_0_1:Int) (a3_1_1 a3_2_1:List Int) (t4_0_1:Int) (t4_1_1 t4_2_1:List Int):Option (api.Array × Int) :=
 Option.bind (Slcs.Clone___int_int_ a3_1_1) fun t37 =>
 Option.bind (Arr.each kind2_1 t37 (fun z0_=>Arr.Convert_1 z0_ kind2_1 (⟨a3_0_1,a3_1_1,a3_2_1⟩:api.Array))) fun (t39_0,t39_1) =>
 some ((⟨t39_0.Kind,t39_0.Shape,t39_0.Elems⟩:api.Array),t39_1)
noncomputable def Arr.Convert.j2 (kind2_2 a3_0_2:Int) (a3_1_2 a3_2_2:List Int) (t4_0_2:Int) (t4_1_2 t4_2_2:List Int) (t32:Bool):Option (api.Array × Int) :=
 bif t32 then
 some ((⟨0,[],[]⟩:api.Array),70)
 else
 Arr.Convert.j1 kind2_2 a3_0_2 a3_1_2 a3_2_2 t4_0_2 t4_1_2 t4_2_2
noncomputable def Arr.Convert.j0 (kind2 a3_0:Int) (a3_1 a3_2:List Int) (t4_0:Int) (t4_1 t4_2:List Int):Option (api.Array × Int) :=
 letk (kind2 != a3_0) fun t21 =>
 bif t21 then
 Option.bind (Arr.isNumber kind2) fun t24 =>
 letk (!t24) fun t25 =>
 bif t25 then
 Arr.Convert.j2 kind2 a3_0 a3_1 a3_2 t4_0 t4_1 t4_2 true
 else
 Option.bind (Arr.isNumber a3_0) fun t29 =>
 letk (!t29) fun t30 =>
 Arr.Convert.j2 kind2 a3_0 a3_1 a3_2 t4_0 t4_1 t4_2 t30
 else
 Arr.Convert.j2 kind2 a3_0 a3_1 a3_2 t4_0 t4_1 t4_2 false
noncomputable def Arr.Convert.j3 (kind2_3 a3_0_3:Int) (a3_1_3 a3_2_3:List Int) (t4_0_3:Int) (t4_1_3 t4_2_3:List Int) (t16:Bool):Option (api.Array × Int) :=
 bif t16 then
 some ((⟨0,[],[]⟩:api.Array),2)
 else
 Arr.Convert.j0 kind2_3 a3_0_3 a3_1_3 a3_2_3 t4_0_3 t4_1_3 t4_2_3
noncomputable def Arr.Convert (kind0:Int) (a1:api.Array):Option (api.Array × Int) :=
 Option.bind (Arr.Valid (⟨a1.Kind,a1.Shape,a1.Elems⟩:api.Array)) fun t7 =>
 letk (!t7) fun t8 =>
 bif t8 then
 Arr.Convert.j3 kind0 a1.Kind a1.Shape a1.Elems 0 ([]) ([]) true
 else
 letk (decide (kind0 < (1:Int))) fun t11 =>
 bif t11 then
 Arr.Convert.j3 kind0 a1.Kind a1.Shape a1.Elems 0 ([]) ([]) true
 else
 letk (decide (kind0 > (4:Int))) fun t15 =>
 Arr.Convert.j3 kind0 a1.Kind a1.Shape a1.Elems 0 ([]) ([]) t15
theorem Arr.Convert_ok {kind0:Int} {a1:api.Array} {r:api.Array × Int} (h0:Arr.Convert kind0 a1 = some r):Gives Tryz.prog 35 [J kind0,api.Array.enc a1] (.tup [api.Array.enc r.1,J r.2]):=by
 unfold Arr.Convert at h0
 refine W' [(0,3),(0,5),(42,9),(26,5)] Tryz.func35 ?_
 refine V' ?_
 refine V' ?_
 refine V' ?_
 refine CutN.of (fun s=>∃ kind2 a3_0 a3_1 a3_2 t4_0 t4_1 t4_2,Arr.Convert.j0 kind2 a3_0 a3_1 a3_2 t4_0 t4_1 t4_2 = some r ∧ s = ⟨42,[(2,.ptr 0 0),(3,.ptr 1 0),(4,.ptr 2 0)],[.box [J kind2],.box [J a3_0,VI' a3_1,VI' a3_2],.box [J t4_0,VI' t4_1,VI' t4_2]]⟩) ?_ ?_
 refine CutN.of (fun s=>∃ kind2_3 a3_0_3 a3_1_3 a3_2_3 t4_0_3 t4_1_3 t4_2_3 t16,Arr.Convert.j3 kind2_3 a3_0_3 a3_1_3 a3_2_3 t4_0_3 t4_1_3 t4_2_3 t16 = some r ∧ s = ⟨42,[(2,.ptr 0 0),(3,.ptr 1 0),(4,.ptr 2 0),(16,.lit (.bool t16))],[.box [J kind2_3],.box [J a3_0_3,VI' a3_1_3,VI' a3_2_3],.box [J t4_0_3,VI' t4_1_3,VI' t4_2_3]]⟩) ?_ ?_
 refine Gate.go (A' h0 Arr.Valid_ok fun _ h1=>?_)
 refine C' h1 (fun h3=>?_) fun h3=>?_
 refine C' h3 (fun h5=>?_) fun h5=>?_
 refine N' h5 fun _ h6=>?_
 exact B' [0,1,2] ⟨_,_,_,_,_,_,_,_,h6,rfl⟩
 exact B' [0,1,2] ⟨_,_,_,_,_,_,_,_,h5,rfl⟩
 exact B' [0,1,2] ⟨_,_,_,_,_,_,_,_,h3,rfl⟩
 rintro s ⟨_,_,_,_,_,_,_,t16,hj0,rfl⟩
 unfold Arr.Convert.j3 at hj0
 rcases t16 with _ | _
 have hj1:=bif_f hj0
 exact B' [0,1,2] ⟨_,_,_,_,_,_,_,hj1,rfl⟩
 have hj1:=bif_t hj0
 refine Gate.go ?_
 refine V' ?_
 refine V' ?_
 have ehj1_0:=Option.some.inj hj1
 subst ehj1_0
 exact Returns.frozen (r:=.tup [api.Array.enc ((⟨0,[],[]⟩:api.Array)),J 2]) [] rfl rfl (WV.tups ⟨(WV.aggs ⟨.s,(.nilsVs _),(.nilsVs _),trivial⟩),.s,trivial⟩) ⟨rfl,rfl⟩
 rintro s ⟨_,_,_,_,_,_,_,hj0,rfl⟩
 unfold Arr.Convert.j0 at hj0
 refine CutN.of (fun s=>∃ kind2_1 a3_0_1 a3_1_1 a3_2_1 t4_0_1 t4_1_1 t4_2_1,Arr.Convert.j1 kind2_1 a3_0_1 a3_1_1 a3_2_1 t4_0_1 t4_1_1 t4_2_1 = some r ∧ s = ⟨42,[(2,.ptr 0 0),(3,.ptr 1 0),(4,.ptr 2 0)],[.box [J kind2_1],.box [J a3_0_1,VI' a3_1_1,VI' a3_2_1],.box [J t4_0_1,VI' t4_1_1,VI' t4_2_1]]⟩) ?_ ?_
 refine CutN.of (fun s=>∃ kind2_2 a3_0_2 a3_1_2 a3_2_2 t4_0_2 t4_1_2 t4_2_2 t32,Arr.Convert.j2 kind2_2 a3_0_2 a3_1_2 a3_2_2 t4_0_2 t4_1_2 t4_2_2 t32 = some r ∧ s = ⟨42,[(2,.ptr 0 0),(3,.ptr 1 0),(4,.ptr 2 0),(32,.lit (.bool t32))],[.box [J kind2_2],.box [J a3_0_2,VI' a3_1_2,VI' a3_2_2],.box [J t4_0_2,VI' t4_1_2,VI' t4_2_2]]⟩) ?_ ?_
 refine C' hj0 (fun hj2=>?_) fun hj2=>?_
 exact B' [0,1,2] ⟨_,_,_,_,_,_,_,_,hj2,rfl⟩
 refine Gate.go (A' hj2 Arr.isNumber_ok fun _ hj3=>?_)
 refine C' hj3 (fun hj5=>?_) fun hj5=>?_
 refine Gate.go (A' hj5 Arr.isNumber_ok fun _ hj6=>?_)
 refine N' hj6 fun _ hj7=>?_
 exact B' [0,1,2] ⟨_,_,_,_,_,_,_,_,hj7,rfl⟩
 exact B' [0,1,2] ⟨_,_,_,_,_,_,_,_,hj5,rfl⟩
 rintro s ⟨_,_,_,_,_,_,_,t32,hj0,rfl⟩
 unfold Arr.Convert.j2 at hj0
 rcases t32 with _ | _
 have hj1:=bif_f hj0
 exact B' [0,1,2] ⟨_,_,_,_,_,_,_,hj1,rfl⟩
 have hj1:=bif_t hj0
 refine Gate.go ?_
 refine V' ?_
 refine V' ?_
 have ehj1_0:=Option.some.inj hj1
 subst ehj1_0
 exact Returns.frozen (r:=.tup [api.Array.enc ((⟨0,[],[]⟩:api.Array)),J 70]) [] rfl rfl (WV.tups ⟨(WV.aggs ⟨.s,(.nilsVs _),(.nilsVs _),trivial⟩),.s,trivial⟩) ⟨rfl,rfl⟩
 rintro s ⟨kind2_1,a3_0_1,a3_1_1,a3_2_1,t4_0_1,t4_1_1,t4_2_1,hj0,rfl⟩
 unfold Arr.Convert.j1 at hj0
 refine DrawB.sees (Sees.of (Weak.objs (k:=42) (keep:=[2]) (frz:=[0,1]) (m:=0) (ts:=[(2,.iptr (J kind2_1)),(3,.iptr (.agg [J a3_0_1,VI' a3_1_1,VI' a3_2_1])),(4,.ptr 0 0)]) (hs:=[.box [J t4_0_1,VI' t4_1_1,VI' t4_2_1]]) rfl (by decide) rfl rfl ⟨⟨_,rfl,WO.refl rfl⟩,⟨rfl,fun _ h=>by cases h⟩⟩ ⟨(.ptrFrz 0 _ (by decide) rfl rfl),(.ptrFrz 1 _ (by decide) rfl rfl),(.ptr _ _ 0 rfl),trivial⟩)) ?_
 refine DrawB.ofFN 1 [.box [J t4_0_1,VI' t4_1_1,VI' t4_2_1],.arr 1 []] 1 2 [[],[],[],[1],[],[1],[],[],[0],[]] [[],[],[],[1],[],[1],[],[],[0],[]] [none,none,none,some 1,none,none,none,none,none,none] Tryz_mixed (by kernel_rfl) rfl rfl rfl (by kernel_rfl) ?_
 refine FNode.no (W:=[]) (J kind2_1) ?_ rfl ?_
 rfl
 refine FNode.no (W:=[]) (.iptr (VI' a3_1_1)) ?_ rfl ?_
 rfl
 refine FNode.no (W:=[]) (VI' a3_1_1) ?_ rfl ?_
 rfl
 obtain ⟨t37,et37,hj1⟩:=bind_elim hj0
 refine FNode.nw (F:=[1]) (W:=[1]) (.ref 2 0 ((t37.map (eI .i64)).length)) (.ref 1 0 ((t37.map (eI .i64)).length)) [.box [J t4_0_1,VI' t4_1_1,VI' t4_2_1],.arr 1 (t37.map (eI .i64))] [.dead,.arr 1 []] (.arr 1 (t37.map (eI .i64))) ?_ rfl rfl rfl rfl ⟨_,rfl⟩ (.inr ⟨0,(t37.map (eI .i64)).length,rfl,rfl⟩) rfl rfl ?_
 refine CallN.fresh (s:=1) (es:=t37.map (eI .i64)) (Slcs.Clone___int_int__ok et37) rfl ?_
 rfl
 refine FNode.no (W:=[]) (.fn (.func 75) [] [.iptr (J kind2_1),.iptr (.agg [J a3_0_1,VI' a3_1_1,VI' a3_2_1])]) ?_ rfl ?_
 rfl
 obtain ⟨⟨t39_0,t39_1⟩,et39,hj2⟩:=bind_elim hj1
 refine FNode.fz (F:=[1]) (W:=[1]) 1 1 (t37.map (eI .i64)) [(34,J kind2_1),(37,VI' t37),(38,.fn (.func 75) [] [.iptr (J kind2_1),.iptr (.agg [J a3_0_1,VI' a3_1_1,VI' a3_2_1])])] (.tup [api.Array.enc t39_0,J t39_1]) [.box [J t4_0_1,VI' t4_1_1,VI' t4_2_1],.dead] rfl ⟨rfl,.inl rfl,rfl,.inr ⟨rfl,rfl⟩,rfl,.inl rfl,trivial⟩ ?_ rfl rfl rfl rfl rfl ?_
 refine CallN.by (v:=.tup [api.Array.enc t39_0,J t39_1]) (Arr.each_ok (show List.all [.iptr (J kind2_1),.iptr (.agg [J a3_0_1,VI' a3_1_1,VI' a3_2_1])] pureQ.pureQ0 = true from rfl) (fun _ _ h=>Arr.Convert_1_ok h) et39) rfl rfl ?_
 rfl
 refine FNode.no (W:=[]) (api.Array.enc t39_0) ?_ rfl ?_
 rfl
 refine FNode.no (W:=[]) (J t39_1) ?_ rfl ?_
 rfl
 refine FNode.pl (F:=[0]) (W:=[0]) (.undef) [.box [J t39_0.Kind,VI' t39_0.Shape,VI' t39_0.Elems],.dead] ?_ rfl rfl rfl rfl ?_
 refine V' ?_
 rfl
 refine FNode.no (W:=[]) (J t39_1) ?_ rfl ?_
 rfl
 exact R' (E:=E14') hj2
noncomputable def Ref7.Convert.s0 (kind0 a3_0_1:Int) (a3_1_1 a3_2_1:List Int) (t4_0_1:Int) (t4_1_1 t4_2_1:List Int) (out6_0:Int) (out6_1 out6_2:List Int) (i7:Int):Option ((Int × (List Int) × (List Int) × Int × (List Int) × (List Int) × Int × (List Int) × (List Int) × Int) ⊕ (api.Array × Int)) :=
 letk ((a3_2_1.length:Int)) fun t37 =>
 letk (decide (i7 < t37)) fun t38 =>
 bif t38 then
 Option.bind (Ref7.At (⟨a3_0_1,a3_1_1,a3_2_1⟩:api.Array) i7) fun t45 =>
 Option.bind (Ref7.brought kind0 t45) fun (t46_0,t46_1) =>
 letk (t46_1 != (0:Int)) fun t50 =>
 bif t50 then
 some (.inr ((⟨0,[],[]⟩:api.Array),t46_1))
 else
 chk ((out6_2.length + ([t46_0.N]).length) * 8 ≤ 140737488355328) <|
 letk (out6_2 ++ ([t46_0.N])) fun t58 =>
 letk (IntKind.i64.wrap (i7 + (1:Int))) fun t40 =>
 some (.inl (a3_0_1,a3_1_1,a3_2_1,t4_0_1,t4_1_1,t4_2_1,out6_0,out6_1,t58,t40))
 else
 some (.inr ((⟨out6_0,out6_1,out6_2⟩:api.Array),0))
noncomputable def Ref7.Convert.l0 (kind0 a3_0_1:Int) (a3_1_1 a3_2_1:List Int) (t4_0_1:Int) (t4_1_1 t4_2_1:List Int) (out6_0:Int) (out6_1 out6_2:List Int) (i7:Int):Option (api.Array × Int):=loopO (fun v:Int × (List Int) × (List Int) × Int × (List Int) × (List Int) × Int × (List Int) × (List Int) × Int=>Ref7.Convert.s0 kind0 v.1 v.2.1 v.2.2.1 v.2.2.2.1 v.2.2.2.2.1 v.2.2.2.2.2.1 v.2.2.2.2.2.2.1 v.2.2.2.2.2.2.2.1 v.2.2.2.2.2.2.2.2.1 v.2.2.2.2.2.2.2.2.2) (a3_0_1,a3_1_1,a3_2_1,t4_0_1,t4_1_1,t4_2_1,out6_0,out6_1,out6_2,i7)
noncomputable def Ref7.Convert.j0 (kind0 a3_0:Int) (a3_1 a3_2:List Int) (t4_0:Int) (t4_1 t4_2:List Int):Option (api.Array × Int) :=
 chk (((([]:List Int)).length + a3_1.length) * 8 ≤ 140737488355328) <|
 letk ((([]:List Int)) ++ a3_1) fun t32 =>
 Ref7.Convert.l0 kind0 a3_0 a3_1 a3_2 t4_0 t4_1 t4_2 kind0 t32 ([]) 0
noncomputable def Ref7.Convert.j1 (kind0 a3_0_2:Int) (a3_1_2 a3_2_2:List Int) (t4_0_2:Int) (t4_1_2 t4_2_2:List Int) (t10:Bool):Option (api.Array × Int) :=
 bif t10 then
 some ((⟨0,[],[]⟩:api.Array),2)
 else
 Option.bind (Ref7.isNumber kind0) fun t22 =>
 Option.bind (Ref7.isNumber a3_0_2) fun t25 =>
 letk (!(t22 == t25)) fun t26 =>
 bif t26 then
 some ((⟨0,[],[]⟩:api.Array),70)
 else
 Ref7.Convert.j0 kind0 a3_0_2 a3_1_2 a3_2_2 t4_0_2 t4_1_2 t4_2_2
noncomputable def Ref7.Convert (kind0:Int) (a1:api.Array):Option (api.Array × Int) :=
 Option.bind (Ref7.Valid (⟨a1.Kind,a1.Shape,a1.Elems⟩:api.Array)) fun t12 =>
 letk (!t12) fun t13 =>
 bif t13 then
 Ref7.Convert.j1 kind0 a1.Kind a1.Shape a1.Elems 0 ([]) ([]) true
 else
 Option.bind (Ref7.isKind kind0) fun t16 =>
 letk (!t16) fun t17 =>
 Ref7.Convert.j1 kind0 a1.Kind a1.Shape a1.Elems 0 ([]) ([]) t17
theorem Ref7.Convert_ok {kind0:Int} {a1:api.Array} {r:api.Array × Int} (h0:Ref7.Convert kind0 a1 = some r):Gives Tryz.prog 36 [J kind0,api.Array.enc a1] (.tup [api.Array.enc r.1,J r.2]):=by
 unfold Ref7.Convert at h0
 refine W' [(0,5),(20,5)] Tryz.func36 ?_
 refine V' ?_
 refine V' ?_
 refine CutN.of (fun s=>∃ a3_0 a3_1 a3_2 t4_0 t4_1 t4_2,Ref7.Convert.j0 kind0 a3_0 a3_1 a3_2 t4_0 t4_1 t4_2 = some r ∧ s = ⟨61,[(0,J kind0),(3,.ptr 0 0),(4,.ptr 1 0)],[.box [J a3_0,VI' a3_1,VI' a3_2],.box [J t4_0,VI' t4_1,VI' t4_2]]⟩) ?_ ?_
 refine CutN.of (fun s=>∃ a3_0_2 a3_1_2 a3_2_2 t4_0_2 t4_1_2 t4_2_2 t10,Ref7.Convert.j1 kind0 a3_0_2 a3_1_2 a3_2_2 t4_0_2 t4_1_2 t4_2_2 t10 = some r ∧ s = ⟨61,[(0,J kind0),(3,.ptr 0 0),(4,.ptr 1 0),(10,.lit (.bool t10))],[.box [J a3_0_2,VI' a3_1_2,VI' a3_2_2],.box [J t4_0_2,VI' t4_1_2,VI' t4_2_2]]⟩) ?_ ?_
 refine Gate.go (A' h0 Ref7.Valid_ok fun _ h1=>?_)
 refine C' h1 (fun h3=>?_) fun h3=>?_
 refine Gate.go (A' h3 Ref7.isKind_ok fun _ h4=>?_)
 refine N' h4 fun _ h5=>?_
 exact B' [0,1] ⟨_,_,_,_,_,_,_,h5,rfl⟩
 exact B' [0,1] ⟨_,_,_,_,_,_,_,h3,rfl⟩
 rintro s ⟨_,_,_,_,_,_,t10,hj0,rfl⟩
 unfold Ref7.Convert.j1 at hj0
 rcases t10 with _ | _
 have hj1:=bif_f hj0
 refine DrawB.ofG [none,none,none,none,none,none,none] Tryz_mixed (by kernel_rfl) (by kernel_rfl) ?_
 refine D' rfl ?_
 refine DC' hj1 (fun e=>Z' (Ref7.isNumber_ok e) rfl) fun _ hj2=>?_
 refine D' rfl (D' rfl ?_)
 refine DC' hj2 (fun e=>Z' (Ref7.isNumber_ok e) rfl) fun _ hj3=>?_
 refine DN' hj3 (fun e=>n' e rfl) fun t26 hj4=>?_
 refine D' rfl ?_
 rcases t26 with _ | _
 have hj5:=bif_f hj4
 exact B' [0,1] ⟨_,_,_,_,_,_,hj5,rfl⟩
 have hj5:=bif_t hj4
 refine Gate.go ?_
 refine V' ?_
 refine V' ?_
 have ehj5_0:=Option.some.inj hj5
 subst ehj5_0
 exact Returns.frozen (r:=.tup [api.Array.enc ((⟨0,[],[]⟩:api.Array)),J 70]) [] rfl rfl (WV.tups ⟨(WV.aggs ⟨.s,(.nilsVs _),(.nilsVs _),trivial⟩),.s,trivial⟩) ⟨rfl,rfl⟩
 have hj1:=bif_t hj0
 refine Gate.go ?_
 refine V' ?_
 refine V' ?_
 have ehj1_0:=Option.some.inj hj1
 subst ehj1_0
 exact Returns.frozen (r:=.tup [api.Array.enc ((⟨0,[],[]⟩:api.Array)),J 2]) [] rfl rfl (WV.tups ⟨(WV.aggs ⟨.s,(.nilsVs _),(.nilsVs _),trivial⟩),.s,trivial⟩) ⟨rfl,rfl⟩
 rintro s ⟨a3_0,a3_1,a3_2,t4_0,t4_1,t4_2,hj0,rfl⟩
 unfold Ref7.Convert.j0 at hj0
 refine Gate.go ?_
 refine Nm.mk ⟨(([]:List Int)).map (eI .i64),rfl,?_⟩
 obtain ⟨chj1,hj1⟩:=chk_elim hj0
 obtain ⟨t32,et32,hj2⟩:=letk_elim hj1
 refine Gate.go ?_
 refine Side.mk (full_le _) ?_
 refine Side.mk (one_map (fun _ _ hc=>by simp only [AV.cells,List.mem_singleton] at hc; subst hc; rfl)) ?_
 refine Side.mk (side_rv (by decide) chj1) ?_
 refine Nm.mk ⟨t32.map (eI .i64),by rw [et32]; exact app_rv,?_⟩
 refine Gate.weak (Sees.of (Weak.objs (k:=61) (keep:=[0,1]) (frz:=[3]) (m:=0) (ts:=[(0,J kind0),(3,.ptr 0 0),(4,.ptr 1 0),(28,J kind0),(32,VI' t32)]) (hs:=[.box [J a3_0,VI' a3_1,VI' a3_2],.box [J t4_0,VI' t4_1,VI' t4_2]]) rfl (by decide) rfl rfl ⟨⟨_,rfl,WO.refl rfl⟩,⟨⟨_,rfl,WO.refl rfl⟩,⟨rfl,fun _ h=>by cases h⟩⟩⟩ ⟨.s,(.ptr _ _ 0 rfl),(.ptr _ _ 1 rfl),.s,(WV.all (k:=3) (by decide) rfl),trivial⟩)) ?_
 refine V' ?_
 refine V' ?_
 refine V' ?_
 unfold Ref7.Convert.l0 at hj2
 refine LoopB.of (σ:=Int × (List Int) × (List Int) × Int × (List Int) × (List Int) × Int × (List Int) × (List Int) × Int) (ρ:=api.Array × Int) (fun v:Int × (List Int) × (List Int) × Int × (List Int) × (List Int) × Int × (List Int) × (List Int) × Int=>Ref7.Convert.s0 kind0 v.1 v.2.1 v.2.2.1 v.2.2.2.1 v.2.2.2.2.1 v.2.2.2.2.2.1 v.2.2.2.2.2.2.1 v.2.2.2.2.2.2.2.1 v.2.2.2.2.2.2.2.2.1 v.2.2.2.2.2.2.2.2.2) (fun v=>(⟨61,[(0,J kind0),(3,.ptr 0 0),(4,.ptr 1 0),(6,.ptr 2 0),(7,J v.2.2.2.2.2.2.2.2.2)],[.box [J v.1,VI' v.2.1,VI' v.2.2.1],.box [J v.2.2.2.1,VI' v.2.2.2.2.1,VI' v.2.2.2.2.2.1],.box [J v.2.2.2.2.2.2.1,VI' v.2.2.2.2.2.2.2.1,.ref 3 0 ((v.2.2.2.2.2.2.2.2.1.map (eI .i64)).length)],.arr 1 (v.2.2.2.2.2.2.2.2.1.map (eI .i64))]⟩:St)) (a3_0,a3_1,a3_2,t4_0,t4_1,t4_2,kind0,t32,[],0) hj2 (BackS.by rfl (Sees.of (Weak.objs (keep:=[0,1,2]) (frz:=[]) (m:=1) rfl (by decide) rfl rfl ⟨⟨_,rfl,WO.boxs ⟨.s,.s,.s,trivial⟩⟩,⟨⟨_,rfl,WO.boxs ⟨.s,.s,.s,trivial⟩⟩,⟨⟨_,rfl,WO.boxs ⟨.s,.s,(.nilsRef 3 (by decide) (by decide)),trivial⟩⟩,⟨rfl,fun _ ho=>by simp only [List.mem_cons,List.not_mem_nil,or_false] at ho; exact ⟨_,ho⟩⟩⟩⟩⟩ ⟨.s,(.ptr _ _ 0 rfl),(.ptr _ _ 1 rfl),(.ptr _ _ 2 rfl),.s,trivial⟩))) ?_
 rintro _ ⟨a3_0_1,a3_1_1,a3_2_1,t4_0_1,t4_1_1,t4_2_1,out6_0,out6_1,out6_2,i7⟩ x1 hs0_0 hl1 hr1
 replace hs0_0:Ref7.Convert.s0 kind0 a3_0_1 a3_1_1 a3_2_1 t4_0_1 t4_1_1 t4_2_1 out6_0 out6_1 out6_2 i7 = some x1:=hs0_0
 unfold Ref7.Convert.s0 at hs0_0
 obtain ⟨t37,et37,hs0_1⟩:=letk_elim hs0_0
 refine Nm.mk ⟨t37,by rw [et37,List.length_map],?_⟩
 refine C' hs0_1 (fun hs0_3=>?_) fun hs0_3=>?_
 have ehs0_3u_0:=hr1 _ (Option.some.inj hs0_3).symm
 have hs0_3u:=congrArg some ehs0_3u_0
 refine V' ?_
 have ehs0_3u_0:=Option.some.inj hs0_3u
 subst ehs0_3u_0
 exact Returns.frozen (r:=.tup [api.Array.enc ((⟨out6_0,out6_1,out6_2⟩:api.Array)),J 0]) [3] rfl rfl (WV.tups ⟨(WV.aggs ⟨.s,.s,(WV.all (k:=3) (by decide) rfl),trivial⟩),.s,trivial⟩) ⟨rfl,rfl⟩
 refine Gate.go (A' hs0_3 Ref7.At_ok fun _ hs0_4=>?_)
 obtain ⟨⟨t46_0,t46_1⟩,et46,hs0_5⟩:=bind_elim hs0_4
 refine Gate.go ?_
 refine Z' (Ref7.brought_ok et46) ?_
 refine V' ?_
 refine V' ?_
 refine C' hs0_5 (fun hs0_7=>?_) fun hs0_7=>?_
 refine Gate.go ?_
 refine Nm.mk ⟨([t46_0.N]).map (eI .i64),rfl,?_⟩
 obtain ⟨chs0_8,hs0_8⟩:=chk_elim hs0_7
 obtain ⟨t58,et58,hs0_9⟩:=letk_elim hs0_8
 refine Gate.go ?_
 refine Side.mk (full_le _) ?_
 refine Side.mk ⟨full_le _,one_map (fun _ _ hc=>by simp only [AV.cells,List.mem_singleton] at hc; subst hc; rfl)⟩ ?_
 refine Side.mk (side_rr (by decide) chs0_8) ?_
 refine Nm.mk ⟨t58.map (eI .i64),by rw [et58]; exact app_rr (m:=[t46_0.N]),?_⟩
 refine V' ?_
 refine N' hs0_9 fun _ hs0_10=>?_
 exact B' [0,1,2,6] ⟨_,hl1 _ (Option.some.inj hs0_10).symm,rfl⟩
 refine Gate.go ?_
 refine V' ?_
 refine V' ?_
 have ehs0_7_0:=hr1 _ (Option.some.inj hs0_7).symm
 subst ehs0_7_0
 exact Returns.frozen (r:=.tup [api.Array.enc ((⟨0,[],[]⟩:api.Array)),J t46_1]) [] rfl rfl (WV.tups ⟨(WV.aggs ⟨.s,(.nilsVs _),(.nilsVs _),trivial⟩),.s,trivial⟩) ⟨rfl,rfl⟩
end Go.Q
