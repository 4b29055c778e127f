import Derived.Test.YtemmhailjfdfdaaGreatAG7
import Derived.Test.YtemmhailjfdfdaaGreatFX
import Derived.Test.YtemmhailjfdfdaaGreatFY
import Derived.Test.YtemmhailjfdfdaaGreatProg
namespace Go.Q
open Go Go.Proofs
set_option maxRecDepth 10000
set_option maxHeartbeats 2000000
noncomputable def Ref7.One.j0 (op0 : ByteArray) (a4_0 a4_1 b5_0 b5_1 t6_0 t6_1 : Int) : Option (api.Value × Int) :=
 Option.bind (Ref7.one op0 (⟨a4_0, a4_1⟩ : api.Value) (⟨b5_0, b5_1⟩ : api.Value)) fun (t30_0, t30_1) =>
 some ((⟨t30_0.Kind, t30_0.N⟩ : api.Value), t30_1)
noncomputable def Ref7.One.j1 (op0 : ByteArray) (a4_0_1 a4_1_1 b5_0_1 b5_1_1 t6_0_1 t6_1_1 : Int) (t8 : Bool) : Option (api.Value × Int) :=
 bif t8 then
 some ((⟨0, 0⟩ : api.Value), 2)
 else
 Option.bind (Ref7.Kind op0 a4_0_1 b5_0_1) fun t24 =>
 letk (t24 == (0 : Int)) fun t25 =>
 bif t25 then
 some ((⟨0, 0⟩ : api.Value), 70)
 else
 Ref7.One.j0 op0 a4_0_1 a4_1_1 b5_0_1 b5_1_1 t6_0_1 t6_1_1
noncomputable def Ref7.One (op0 : ByteArray) (a1 b2 : api.Value) : Option (api.Value × Int) :=
 Option.bind (Ref7.IsValue (⟨a1.Kind, a1.N⟩ : api.Value)) fun t10 =>
 letk (!t10) fun t11 =>
 bif t11 then
 Ref7.One.j1 op0 a1.Kind a1.N b2.Kind b2.N 0 0 true
 else
 Option.bind (Ref7.IsValue (⟨b2.Kind, b2.N⟩ : api.Value)) fun t14 =>
 letk (!t14) fun t15 =>
 Ref7.One.j1 op0 a1.Kind a1.N b2.Kind b2.N 0 0 t15
theorem Ref7.One_ok {op0 : ByteArray} {a1 b2 : api.Value} {r : api.Value × Int} (h0 : Ref7.One op0 a1 b2 = some r) : Gives Tryz.prog 29 [.lit (.string op0), api.Value.enc a1, api.Value.enc b2] (.tup [api.Value.enc r.1, J r.2]) := by
 unfold Ref7.One at h0
 refine W' [(0, 5), (18, 5)] Tryz.func29 ?_
 refine V' ?_
 refine V' ?_
 refine V' ?_
 refine CutN.of (fun s => ∃ a4_0 a4_1 b5_0 b5_1 t6_0 t6_1, Ref7.One.j0 op0 a4_0 a4_1 b5_0 b5_1 t6_0 t6_1 = some r ∧ s = ⟨33, [(0, .lit (.string op0)), (4, .ptr 0 0), (5, .ptr 1 0), (6, .ptr 2 0)], [.box [J a4_0, J a4_1], .box [J b5_0, J b5_1], .box [J t6_0, J t6_1]]⟩) ?_ ?_
 refine CutN.of (fun s => ∃ a4_0_1 a4_1_1 b5_0_1 b5_1_1 t6_0_1 t6_1_1 t8, Ref7.One.j1 op0 a4_0_1 a4_1_1 b5_0_1 b5_1_1 t6_0_1 t6_1_1 t8 = some r ∧ s = ⟨33, [(0, .lit (.string op0)), (4, .ptr 0 0), (5, .ptr 1 0), (6, .ptr 2 0), (8, .lit (.bool t8))], [.box [J a4_0_1, J a4_1_1], .box [J b5_0_1, J b5_1_1], .box [J t6_0_1, J t6_1_1]]⟩) ?_ ?_
 refine Gate.go (A' h0 Ref7.IsValue_ok fun t10 h1 => ?_)
 refine C' h1 (fun h3 => ?_) fun h3 => ?_
 refine Gate.go (A' h3 Ref7.IsValue_ok fun t14 h4 => ?_)
 refine N' h4 fun t15 h5 => ?_
 exact B' [0, 1, 2] ⟨_, _, _, _, _, _, _, h5, rfl⟩
 exact B' [0, 1, 2] ⟨_, _, _, _, _, _, _, h3, rfl⟩
 rintro s ⟨a4_0_1, a4_1_1, b5_0_1, b5_1_1, t6_0_1, t6_1_1, t8, hj0, rfl⟩
 unfold Ref7.One.j1 at hj0
 rcases t8 with _ | _
 have hj1 := bif_f hj0
 refine Gate.go (A' hj1 Ref7.Kind_ok fun t24 hj2 => ?_)
 refine C' hj2 (fun hj4 => ?_) fun hj4 => ?_
 exact B' [0, 1, 2] ⟨_, _, _, _, _, _, hj4, rfl⟩
 refine Gate.go ?_
 refine V' ?_
 refine V' ?_
 exact R' (E := E10') hj4
 have hj1 := bif_t hj0
 refine Gate.go ?_
 refine V' ?_
 refine V' ?_
 exact R' (E := E10') hj1
 rintro s ⟨a4_0, a4_1, b5_0, b5_1, t6_0, t6_1, hj0, rfl⟩
 unfold Ref7.One.j0 at hj0
 obtain ⟨⟨t30_0, t30_1⟩, et30, hj1⟩ := bind_elim hj0
 refine Gate.go ?_
 refine Z' (Ref7.one_ok et30) ?_
 refine V' ?_
 exact R' (E := E10') hj1
noncomputable def Flt.signed (kind0 a1 : Int) (sign2 : Int → Option Int) : Option (Int × Int) :=
 Option.bind (Flt.two kind0 0 a1 a1) fun (t17_0, t17_1, t17_2, t17_3) =>
 letk (!t17_3) fun t24 =>
 bif t24 then
 some (0, 2)
 else
 letk (t17_1.class_ == (3 : Int)) fun t28 =>
 bif t28 then
 Option.bind (Flt.shape.quiet (⟨t17_0.p, t17_0.w⟩ : float.shape)) fun t30 =>
 some (t30, 0)
 else
 letk (IntKind.u64.wrap a1) fun t32 =>
 letk (IntKind.i64.wrap (t17_0.p + t17_0.w)) fun t37 =>
 letk (IntKind.i64.wrap (t37 - (1 : Int))) fun t38 =>
 chk (0 ≤ t38) <|
 letk (IntKind.u64.wrap ((1 : Int) * 2 ^ (min t38.toNat (IntKind.u64).bits))) fun t39 =>
 letk (IntKind.u64.wrap (t39 - (1 : Int))) fun t40 =>
 letk (IntKind.u64.wrap (BitVec.ofInt (IntKind.u64).bits t32 &&& BitVec.ofInt (IntKind.u64).bits t40).toNat) fun t41 =>
 Option.bind (sign2 t17_1.sign) fun t45 =>
 letk (IntKind.u64.wrap t45) fun t46 =>
 letk (IntKind.i64.wrap (t17_0.p + t17_0.w)) fun t51 =>
 letk (IntKind.i64.wrap (t51 - (1 : Int))) fun t52 =>
 chk (0 ≤ t52) <|
 letk (IntKind.u64.wrap (t46 * 2 ^ (min t52.toNat (IntKind.u64).bits))) fun t53 =>
 letk (IntKind.u64.wrap (BitVec.ofInt (IntKind.u64).bits t53 ||| BitVec.ofInt (IntKind.u64).bits t41).toNat) fun t55 =>
 letk (IntKind.i64.wrap t55) fun t56 =>
 some (t56, 0)
theorem Flt.signed_ok {kind0 a1 : Int} {sign2 : Int → Option Int} {r : Int × Int} {sign2g : Nat} {sign2gc : List AV} (hsign2gc : sign2gc.all pureQ.pureQ0 = true) (hsign2 : ∀ a0 r, sign2 a0 = some r → Gives Tryz.prog sign2g ([J a0] ++ sign2gc) (J r)) (h0 : Flt.signed kind0 a1 sign2 = some r) : Gives Tryz.prog 161 [J kind0, J a1, .fn (.func sign2g) [] sign2gc] (.tup [J r.1, J r.2]) := by
 unfold Flt.signed at h0
 refine W' [] Tryz.func161 ?_
 obtain ⟨⟨t17_0, t17_1, t17_2, t17_3⟩, et17, h1⟩ := bind_elim h0
 refine Gate.go ?_
 refine Z' (Flt.two_ok et17) ?_
 refine V' ?_
 refine V' ?_
 refine V' ?_
 refine V' ?_
 refine V' ?_
 refine V' ?_
 refine C' h1 (fun h3 => ?_) fun h3 => ?_
 refine C' h3 (fun h5 => ?_) fun h5 => ?_
 refine N' h5 fun t32 h6 => ?_
 refine N' h6 fun t37 h7 => ?_
 refine N' h7 fun t38 h8 => ?_
 refine S' h8 fun h9 => ?_
 refine N' h9 fun t39 h10 => ?_
 refine N' h10 fun t40 h11 => ?_
 refine N' h11 fun t41 h12 => ?_
 refine DrawB.sees (Sees.of (Weak.objs (k := 57) (keep := [0, 1]) (frz := []) (m := 0) (ts := [(2, .fn (.func sign2g) [] sign2gc), (8, .ptr 0 0), (9, .ptr 1 0), (12, U t41)]) (hs := [.box [J t17_0.p, J t17_0.w], .box [J t17_1.class_, J t17_1.sign, U t17_1.m, J t17_1.e]]) rfl (by decide) rfl rfl ⟨⟨_, rfl, WO.refl rfl⟩, ⟨⟨_, rfl, WO.refl rfl⟩, ⟨rfl, fun _ h => by cases h⟩⟩⟩ ⟨(.same _ (fnq hsign2gc)), (.ptr _ _ 0 rfl), (.ptr _ _ 1 rfl), .s, trivial⟩)) ?_
 refine DrawB.ofG [none, none, none, none, none, none, none, none, none, none, none, none, none, none, none, none, none] Tryz_mixed (by kernel_rfl) (by kernel_rfl) ?_
 refine D' rfl (D' rfl (D' rfl ?_))
 obtain ⟨t45, et45, h13⟩ := bind_elim h12
 refine DNodeB.of (J t45) ?_ ?_
 refine CallN.by (v := J t45) (hsign2 _ _ et45) (allq_app rfl hsign2gc) rfl ?_
 rfl
 refine DN' h13 (fun e => n' e rfl) fun t46 h14 => ?_
 refine D' rfl (D' rfl (D' rfl (D' rfl ?_)))
 refine DN' h14 (fun e => n' e rfl) fun t51 h15 => ?_
 refine DN' h15 (fun e => n' e rfl) fun t52 h16 => ?_
 refine DS' h16 (fun c e => Side.mk c (n' e rfl)) fun t53 h18 => ?_
 refine D' rfl ?_
 refine DN' h18 (fun e => n' e rfl) fun t55 h19 => ?_
 refine DN' h19 (fun e => n' e rfl) fun t56 h20 => ?_
 refine D' rfl (D' rfl ?_)
 exact R' (E := E3') h20
 refine Gate.go (A' h5 Flt.shape.quiet_ok fun t30 h6 => ?_)
 exact R' (E := E3') h6
 exact R' (E := E3') h3
noncomputable def Flt.Neg_1 (own0 : Int) : Option Int :=
 letk (IntKind.i64.wrap ((1 : Int) - own0)) fun t4 =>
 some t4
theorem Flt.Neg_1_ok {own0 r : Int} (h0 : Flt.Neg_1 own0 = some r) : Gives Tryz.prog 162 [J own0] (J r) := by
 unfold Flt.Neg_1 at h0
 refine W' [] Tryz.func162 ?_
 refine N' h0 fun t4 h1 => ?_
 exact R' (E := E2') h1
noncomputable def Flt.Neg (kind0 a1 : Int) : Option (Int × Int) :=
 Option.bind (Flt.signed kind0 a1 Flt.Neg_1) fun (t8_0, t8_1) =>
 some (t8_0, t8_1)
theorem Flt.Neg_ok {kind0 a1 : Int} {r : Int × Int} (h0 : Flt.Neg kind0 a1 = some r) : Gives Tryz.prog 119 [J kind0, J a1] (.tup [J r.1, J r.2]) := by
 unfold Flt.Neg at h0
 refine W' [] Tryz.func119 ?_
 obtain ⟨⟨t8_0, t8_1⟩, et8, h1⟩ := bind_elim h0
 refine Gate.go ?_
 refine CallN.by (v := .tup [J t8_0, J t8_1]) (Flt.signed_ok (show List.all [] pureQ.pureQ0 = true from rfl) (fun _ r h => Flt.Neg_1_ok h) et8) rfl rfl ?_
 exact R' (E := E3') h1
noncomputable def Arr.only_ (op0 : ByteArray) (a1 : api.Value) : Option api.Value :=
 letk (op0.toList == (⟨#[46, 110, 111, 116, 46]⟩ : ByteArray).toList) fun t18 =>
 bif t18 then
 letk (a1.N == (0 : Int)) fun t21 =>
 Option.bind (Arr.logical t21) fun t22 =>
 some (⟨t22.Kind, t22.N⟩ : api.Value)
 else
 letk (op0.toList == (⟨#[43]⟩ : ByteArray).toList) fun t25 =>
 bif t25 then
 Option.bind (Arr.bytes a1.Kind) fun t28 =>
 letk (decide (t28 > (0 : Int))) fun t30 =>
 bif t30 then
 Option.bind (Flt.Neg t28 a1.N) fun (t35_0, t35_1) =>
 Option.bind (Flt.Neg t28 t35_0) fun (t43_0, t43_1) =>
 some (⟨a1.Kind, t43_0⟩ : api.Value)
 else
 some (⟨a1.Kind, a1.N⟩ : api.Value)
 else
 letk (a1.Kind == (1 : Int)) fun t51 =>
 bif t51 then
 letk (IntKind.i64.wrap (0 - a1.N)) fun t54 =>
 some (⟨a1.Kind, t54⟩ : api.Value)
 else
 Option.bind (Arr.bytes a1.Kind) fun t9 =>
 Option.bind (Flt.Neg t9 a1.N) fun (t12_0, t12_1) =>
 some (⟨a1.Kind, t12_0⟩ : api.Value)
theorem Arr.only__ok {op0 : ByteArray} {a1 r : api.Value} (h0 : Arr.only_ op0 a1 = some r) : Gives Tryz.prog 69 [.lit (.string op0), api.Value.enc a1] (api.Value.enc r) := by
 unfold Arr.only_ at h0
 refine W' [] Tryz.func69 ?_
 refine V' ?_
 refine V' ?_
 refine C' h0 (fun h2 => ?_) fun h2 => ?_
 refine C' h2 (fun h4 => ?_) fun h4 => ?_
 refine C' h4 (fun h6 => ?_) fun h6 => ?_
 refine DrawB.ofFN 0 [.box [J a1.Kind, J a1.N], .box [J 0, J 0]] 2 2 [[0], [0], [], [0], [0], [], [], [], [], [0], [0]] [[], [], [], [], [], [], [], [], [], [], [0]] [none, none, none, none, none, none, none, none, none, none, none] Tryz_mixed (by kernel_rfl) rfl rfl rfl (by kernel_rfl) ?_
 refine FNode.rd (F := [0]) (W := []) (.ptr 0 0) ?_ rfl rfl ?_
 rfl
 refine FNode.rd (F := [0]) (W := []) (J a1.Kind) ?_ rfl rfl ?_
 rfl
 obtain ⟨t9, et9, h7⟩ := bind_elim h6
 refine FNode.no (W := []) (J t9) ?_ rfl ?_
 refine Z' (Arr.bytes_ok et9) ?_
 rfl
 refine FNode.rd (F := [0]) (W := []) (.ptr 0 1) ?_ rfl rfl ?_
 rfl
 refine FNode.rd (F := [0]) (W := []) (J a1.N) ?_ rfl rfl ?_
 rfl
 obtain ⟨⟨t12_0, t12_1⟩, et12, h8⟩ := bind_elim h7
 refine FNode.no (W := []) (.tup [J t12_0, J t12_1]) ?_ rfl ?_
 refine Z' (Flt.Neg_ok et12) ?_
 rfl
 refine FNode.no (W := []) (.tup [J t12_0, J t12_1]) ?_ rfl ?_
 rfl
 refine FNode.no (W := []) (J t12_0) ?_ rfl ?_
 rfl
 refine FNode.no (W := []) (J t12_1) ?_ rfl ?_
 rfl
 refine FNode.rd (F := [0]) (W := []) (.ptr 0 1) ?_ rfl rfl ?_
 rfl
 refine FNode.pl (F := [0]) (W := [0]) (.undef) [.box [J a1.Kind, J t12_0], .box [J 0, J 0]] ?_ rfl rfl rfl rfl ?_
 refine V' ?_
 rfl
 refine V' ?_
 exact R' (E := E11') h8
 refine N' h6 fun t54 h7 => ?_
 refine V' ?_
 refine V' ?_
 exact R' (E := E11') h7
 refine Gate.go (A' h4 Arr.bytes_ok fun t28 h5 => ?_)
 refine C' h5 (fun h7 => ?_) fun h7 => ?_
 refine V' ?_
 exact R' (E := E11') h7
 obtain ⟨⟨t35_0, t35_1⟩, et35, h8⟩ := bind_elim h7
 refine Gate.go ?_
 refine Z' (Flt.Neg_ok et35) ?_
 refine V' ?_
 obtain ⟨⟨t43_0, t43_1⟩, et43, h9⟩ := bind_elim h8
 refine Gate.go ?_
 refine Z' (Flt.Neg_ok et43) ?_
 refine V' ?_
 refine V' ?_
 exact R' (E := E11') h9
 refine N' h2 fun t21 h3 => ?_
 refine Gate.go (A' h3 Arr.logical_ok fun t22 h4 => ?_)
 refine V' ?_
 exact R' (E := E11') h4
noncomputable def Arr.Only (op0 : ByteArray) (a1 : api.Value) : Option (api.Value × Int) :=
 Option.bind (Arr.IsValue (⟨a1.Kind, a1.N⟩ : api.Value)) fun t8 =>
 letk (!t8) fun t9 =>
 bif t9 then
 some ((⟨0, 0⟩ : api.Value), 2)
 else
 Option.bind (Arr.Kind op0 a1.Kind 0) fun t15 =>
 letk (t15 == (0 : Int)) fun t16 =>
 bif t16 then
 some ((⟨0, 0⟩ : api.Value), 70)
 else
 Option.bind (Arr.only_ op0 (⟨a1.Kind, a1.N⟩ : api.Value)) fun t20 =>
 some ((⟨t20.Kind, t20.N⟩ : api.Value), 0)
theorem Arr.Only_ok {op0 : ByteArray} {a1 : api.Value} {r : api.Value × Int} (h0 : Arr.Only op0 a1 = some r) : Gives Tryz.prog 30 [.lit (.string op0), api.Value.enc a1] (.tup [api.Value.enc r.1, J r.2]) := by
 unfold Arr.Only at h0
 refine W' [] Tryz.func30 ?_
 refine V' ?_
 refine V' ?_
 refine Gate.go (A' h0 Arr.IsValue_ok fun t8 h1 => ?_)
 refine C' h1 (fun h3 => ?_) fun h3 => ?_
 refine Gate.go (A' h3 Arr.Kind_ok fun t15 h4 => ?_)
 refine C' h4 (fun h6 => ?_) fun h6 => ?_
 refine Gate.go (A' h6 Arr.only__ok fun t20 h7 => ?_)
 refine V' ?_
 exact R' (E := E10') h7
 refine Gate.go ?_
 refine V' ?_
 refine V' ?_
 exact R' (E := E10') h6
 refine Gate.go ?_
 refine V' ?_
 refine V' ?_
 exact R' (E := E10') h3
noncomputable def Ref1.Neg (kind0 a1 : Int) : Option (Int × Int) :=
 Option.bind (Ref1.Valid kind0 a1) fun t8 =>
 letk (!t8) fun t9 =>
 bif t9 then
 some (0, 2)
 else
 Option.bind (Ref1.negative kind0 a1) fun t12 =>
 some (t12, 0)
theorem Ref1.Neg_ok {kind0 a1 : Int} {r : Int × Int} (h0 : Ref1.Neg kind0 a1 = some r) : Gives Tryz.prog 120 [J kind0, J a1] (.tup [J r.1, J r.2]) := by
 unfold Ref1.Neg at h0
 refine W' [] Tryz.func120 ?_
 refine Gate.go (A' h0 Ref1.Valid_ok fun t8 h1 => ?_)
 refine C' h1 (fun h3 => ?_) fun h3 => ?_
 refine Gate.go (A' h3 Ref1.negative_ok fun t12 h4 => ?_)
 exact R' (E := E3') h4
 exact R' (E := E3') h3
noncomputable def Ref7.only_.j1 (a3_0_1 a3_1_1 t4_0_1 t4_1_1 n5 : Int) : Option api.Value :=
 some (⟨a3_0_1, n5⟩ : api.Value)
noncomputable def Ref7.only_.j0 (op0 : ByteArray) (a3_0 a3_1 t4_0 t4_1 : Int) : Option api.Value :=
 Option.bind (Ref7.Bytes a3_0) fun t34 =>
 Option.bind (Ref1.Neg t34 a3_1) fun (t37_0, t37_1) =>
 letk (op0.toList == (⟨#[43]⟩ : ByteArray).toList) fun t41 =>
 bif t41 then
 Option.bind (Ref7.Bytes a3_0) fun t45 =>
 Option.bind (Ref1.Neg t45 t37_0) fun (t47_0, t47_1) =>
 Ref7.only_.j1 a3_0 a3_1 t4_0 t4_1 t47_0
 else
 Ref7.only_.j1 a3_0 a3_1 t4_0 t4_1 t37_0
noncomputable def Ref7.only_.j2 (op0 : ByteArray) (a1 : api.Value) (t14 : Bool) : Option api.Value :=
 bif t14 then
 some (⟨a1.Kind, a1.N⟩ : api.Value)
 else
 letk (a1.Kind == (1 : Int)) fun t26 =>
 bif t26 then
 letk (IntKind.i64.wrap (0 - a1.N)) fun t29 =>
 some (⟨1, t29⟩ : api.Value)
 else
 Ref7.only_.j0 op0 a1.Kind a1.N 0 0
noncomputable def Ref7.only_ (op0 : ByteArray) (a1 : api.Value) : Option api.Value :=
 letk (op0.toList == (⟨#[46, 110, 111, 116, 46]⟩ : ByteArray).toList) fun t9 =>
 bif t9 then
 letk (a1.N == (0 : Int)) fun t12 =>
 Option.bind (Ref7.truth t12) fun t13 =>
 some (⟨t13.Kind, t13.N⟩ : api.Value)
 else
 letk (a1.Kind == (1 : Int)) fun t17 =>
 bif t17 then
 letk (op0.toList == (⟨#[43]⟩ : ByteArray).toList) fun t20 =>
 Ref7.only_.j2 op0 a1 t20
 else
 Ref7.only_.j2 op0 a1 false
theorem Ref7.only__ok {op0 : ByteArray} {a1 r : api.Value} (h0 : Ref7.only_ op0 a1 = some r) : Gives Tryz.prog 70 [.lit (.string op0), api.Value.enc a1] (api.Value.enc r) := by
 unfold Ref7.only_ at h0
 refine W' [(0, 7), (0, 10), (24, 9)] Tryz.func70 ?_
 refine V' ?_
 refine V' ?_
 refine CutN.of (fun s => ∃ a3_0 a3_1 t4_0 t4_1, Ref7.only_.j0 op0 a3_0 a3_1 t4_0 t4_1 = some r ∧ s = ⟨54, [(0, .lit (.string op0)), (3, .ptr 0 0), (4, .ptr 1 0)], [.box [J a3_0, J a3_1], .box [J t4_0, J t4_1]]⟩) ?_ ?_
 refine C' h0 (fun h2 => ?_) fun h2 => ?_
 refine CutN.of (fun s => ∃ t14, Ref7.only_.j2 op0 a1 t14 = some r ∧ s = ⟨54, [(0, .lit (.string op0)), (3, .ptr 0 0), (4, .ptr 1 0), (14, .lit (.bool t14))], [.box [J a1.Kind, J a1.N], .box [J 0, J 0]]⟩) ?_ ?_
 refine C' h2 (fun h4 => ?_) fun h4 => ?_
 exact B' [0, 1] ⟨_, h4, rfl⟩
 refine N' h4 fun t20 h5 => ?_
 exact B' [0, 1] ⟨_, h5, rfl⟩
 rintro s ⟨t14, hj0, rfl⟩
 unfold Ref7.only_.j2 at hj0
 rcases t14 with _ | _
 have hj1 := bif_f hj0
 refine C' hj1 (fun hj3 => ?_) fun hj3 => ?_
 exact B' [0, 1] ⟨_, _, _, _, hj3, rfl⟩
 refine N' hj3 fun t29 hj4 => ?_
 refine Gate.go ?_
 refine V' ?_
 refine V' ?_
 exact R' (E := E11') hj4
 have hj1 := bif_t hj0
 refine V' ?_
 exact R' (E := E11') hj1
 refine N' h2 fun t12 h3 => ?_
 refine Gate.go (A' h3 Ref7.truth_ok fun t13 h4 => ?_)
 refine V' ?_
 exact R' (E := E11') h4
 rintro s ⟨a3_0, a3_1, t4_0, t4_1, hj0, rfl⟩
 unfold Ref7.only_.j0 at hj0
 refine DrawB.ofG [none, none, none, none, none, none, none, none, none, none, none] Tryz_mixed (by kernel_rfl) (by kernel_rfl) ?_
 refine D' rfl (D' rfl ?_)
 refine DC' hj0 (fun e => Z' (Ref7.Bytes_ok e) rfl) fun t34 hj1 => ?_
 refine D' rfl (D' rfl ?_)
 obtain ⟨⟨t37_0, t37_1⟩, et37, hj2⟩ := bind_elim hj1
 refine DNodeB.of (.tup [J t37_0, J t37_1]) ?_ ?_
 refine Z' (Ref1.Neg_ok et37) ?_
 rfl
 refine D' rfl (D' rfl (D' rfl (D' rfl (D' rfl ?_))))
 refine CutN.of (fun s => ∃ a3_0_1 a3_1_1 t4_0_1 t4_1_1 n5, Ref7.only_.j1 a3_0_1 a3_1_1 t4_0_1 t4_1_1 n5 = some r ∧ s = ⟨54, [(3, .ptr 0 0), (4, .ptr 1 0), (5, J n5)], [.box [J a3_0_1, J a3_1_1], .box [J t4_0_1, J t4_1_1]]⟩) ?_ ?_
 refine C' hj2 (fun hj4 => ?_) fun hj4 => ?_
 exact B' [0, 1] ⟨_, _, _, _, _, hj4, rfl⟩
 refine Gate.go (A' hj4 Ref7.Bytes_ok fun t45 hj5 => ?_)
 obtain ⟨⟨t47_0, t47_1⟩, et47, hj6⟩ := bind_elim hj5
 refine Gate.go ?_
 refine Z' (Ref1.Neg_ok et47) ?_
 exact B' [0, 1] ⟨_, _, _, _, _, hj6, rfl⟩
 rintro s ⟨a3_0_1, a3_1_1, t4_0_1, t4_1_1, n5, hj0, rfl⟩
 unfold Ref7.only_.j1 at hj0
 refine Gate.go ?_
 refine V' ?_
 refine V' ?_
 exact R' (E := E11') hj0
noncomputable def Ref7.Only (op0 : ByteArray) (a1 : api.Value) : Option (api.Value × Int) :=
 Option.bind (Ref7.IsValue (⟨a1.Kind, a1.N⟩ : api.Value)) fun t8 =>
 letk (!t8) fun t9 =>
 bif t9 then
 some ((⟨0, 0⟩ : api.Value), 2)
 else
 Option.bind (Ref7.Kind op0 a1.Kind 0) fun t15 =>
 letk (t15 == (0 : Int)) fun t16 =>
 bif t16 then
 some ((⟨0, 0⟩ : api.Value), 70)
 else
 Option.bind (Ref7.only_ op0 (⟨a1.Kind, a1.N⟩ : api.Value)) fun t20 =>
 some ((⟨t20.Kind, t20.N⟩ : api.Value), 0)
theorem Ref7.Only_ok {op0 : ByteArray} {a1 : api.Value} {r : api.Value × Int} (h0 : Ref7.Only op0 a1 = some r) : Gives Tryz.prog 31 [.lit (.string op0), api.Value.enc a1] (.tup [api.Value.enc r.1, J r.2]) := by
 unfold Ref7.Only at h0
 refine W' [] Tryz.func31 ?_
 refine V' ?_
 refine V' ?_
 refine Gate.go (A' h0 Ref7.IsValue_ok fun t8 h1 => ?_)
 refine C' h1 (fun h3 => ?_) fun h3 => ?_
 refine Gate.go (A' h3 Ref7.Kind_ok fun t15 h4 => ?_)
 refine C' h4 (fun h6 => ?_) fun h6 => ?_
 refine Gate.go (A' h6 Ref7.only__ok fun t20 h7 => ?_)
 refine V' ?_
 exact R' (E := E10') h7
 refine Gate.go ?_
 refine V' ?_
 refine V' ?_
 exact R' (E := E10') h6
 refine Gate.go ?_
 refine V' ?_
 refine V' ?_
 exact R' (E := E10') h3
noncomputable def Law7.ArrayValues (op0 : ByteArray) (a1 b2 : api.Value) : Option Bool :=
 Option.bind (Arr.One op0 (⟨a1.Kind, a1.N⟩ : api.Value) (⟨b2.Kind, b2.N⟩ : api.Value)) fun (t19_0, t19_1) =>
 Option.bind (Ref7.One op0 (⟨a1.Kind, a1.N⟩ : api.Value) (⟨b2.Kind, b2.N⟩ : api.Value)) fun (t26_0, t26_1) =>
 Option.bind (Arr.Only op0 (⟨a1.Kind, a1.N⟩ : api.Value)) fun (t32_0, t32_1) =>
 Option.bind (Ref7.Only op0 (⟨a1.Kind, a1.N⟩ : api.Value)) fun (t38_0, t38_1) =>
 letk (((t19_0.Kind == t26_0.Kind) && ((t19_0.N == t26_0.N) && true))) fun t43 =>
 bif t43 then
 letk (t19_1 == t26_1) fun t47 =>
 bif t47 then
 letk (((t32_0.Kind == t38_0.Kind) && ((t32_0.N == t38_0.N) && true))) fun t52 =>
 bif t52 then
 letk (t32_1 == t38_1) fun t57 =>
 bif t57 then
 Option.bind (Arr.Kind op0 a1.Kind b2.Kind) fun t65 =>
 Option.bind (Ref7.Kind op0 a1.Kind b2.Kind) fun t71 =>
 letk (t65 == t71) fun t72 =>
 bif t72 then
 Option.bind (Arr.Kind op0 a1.Kind 0) fun t78 =>
 Option.bind (Ref7.Kind op0 a1.Kind 0) fun t82 =>
 letk (t78 == t82) fun t83 =>
 bif t83 then
 Option.bind (Law7.Awake) fun t86 =>
 some t86
 else
 some false
 else
 some false
 else
 some false
 else
 some false
 else
 some false
 else
 some false
theorem Law7.ArrayValues_ok {op0 : ByteArray} {a1 b2 : api.Value} {r : Bool} (h0 : Law7.ArrayValues op0 a1 b2 = some r) : Gives Tryz.prog 9 [.lit (.string op0), api.Value.enc a1, api.Value.enc b2] (.lit (.bool r)) := by
 unfold Law7.ArrayValues at h0
 refine W' [] Tryz.func9 ?_
 refine V' ?_
 refine V' ?_
 obtain ⟨⟨t19_0, t19_1⟩, et19, h1⟩ := bind_elim h0
 refine Gate.go ?_
 refine Z' (Arr.One_ok et19) ?_
 refine V' ?_
 refine V' ?_
 obtain ⟨⟨t26_0, t26_1⟩, et26, h2⟩ := bind_elim h1
 refine Gate.go ?_
 refine Z' (Ref7.One_ok et26) ?_
 refine V' ?_
 refine V' ?_
 obtain ⟨⟨t32_0, t32_1⟩, et32, h3⟩ := bind_elim h2
 refine Gate.go ?_
 refine Z' (Arr.Only_ok et32) ?_
 refine V' ?_
 refine V' ?_
 obtain ⟨⟨t38_0, t38_1⟩, et38, h4⟩ := bind_elim h3
 refine Gate.go ?_
 refine Z' (Ref7.Only_ok et38) ?_
 refine V' ?_
 refine V' ?_
 refine L' [0, 1, 2, 3, 4, 5] [0, 4, 5, 7, 8, 9, 10, 11, 12, 13, 14] ?_
 refine DrawB.ofG [none, none, none, none, some 44, some 44, some 44, none, none, some 49, some 49, some 49, none, none, some 54, some 54, some 54, none, none, some 59, some 59, some 59, some 59, some 59, some 59, some 59, some 59, some 59, some 59, some 59, some 59, some 59, none, none, some 74, some 74, some 74, some 74, some 74, some 74, some 74, some 74, some 74, none, none, some 85, none, none] Tryz_mixed (by kernel_rfl) (by kernel_rfl) ?_
 refine D' rfl (D' rfl ?_)
 obtain ⟨t43, et43, h5⟩ := letk_elim h4
 refine DNodeB.of (.lit (.bool t43)) ?_ ?_
 refine EqS.mk ⟨[.i, .i], by kernel_rfl, ?_⟩
 refine Nm.mk ⟨t43, et43, ?_⟩
 rfl
 refine D' rfl ?_
 rcases t43 with _ | _
 have h6 := bif_f h5
 refine D' rfl (D' rfl (D' rfl (D' rfl (D' rfl (D' rfl (D' rfl (D' rfl (D' rfl (D' rfl (D' rfl (D' rfl ?_)))))))))))
 exact R' (E := E1') h6
 have h6 := bif_t h5
 refine D' rfl (D' rfl ?_)
 refine DN' h6 (fun e => n' e rfl) fun t47 h7 => ?_
 refine D' rfl (D' rfl ?_)
 rcases t47 with _ | _
 have h8 := bif_f h7
 refine D' rfl (D' rfl (D' rfl (D' rfl (D' rfl (D' rfl (D' rfl (D' rfl (D' rfl (D' rfl ?_)))))))))
 exact R' (E := E1') h8
 have h8 := bif_t h7
 refine D' rfl (D' rfl ?_)
 obtain ⟨t52, et52, h9⟩ := letk_elim h8
 refine DNodeB.of (.lit (.bool t52)) ?_ ?_
 refine EqS.mk ⟨[.i, .i], by kernel_rfl, ?_⟩
 refine Nm.mk ⟨t52, et52, ?_⟩
 rfl
 refine D' rfl (D' rfl ?_)
 rcases t52 with _ | _
 have h10 := bif_f h9
 refine D' rfl (D' rfl (D' rfl (D' rfl (D' rfl (D' rfl (D' rfl (D' rfl ?_)))))))
 exact R' (E := E1') h10
 have h10 := bif_t h9
 refine D' rfl (D' rfl ?_)
 refine DN' h10 (fun e => n' e rfl) fun t57 h11 => ?_
 refine D' rfl (D' rfl ?_)
 rcases t57 with _ | _
 have h12 := bif_f h11
 refine D' rfl (D' rfl (D' rfl (D' rfl (D' rfl (D' rfl ?_)))))
 exact R' (E := E1') h12
 have h12 := bif_t h11
 refine D' rfl (D' rfl (D' rfl (D' rfl (D' rfl ?_))))
 refine DC' h12 (fun e => Z' (Arr.Kind_ok e) rfl) fun t65 h13 => ?_
 refine D' rfl (D' rfl (D' rfl (D' rfl (D' rfl ?_))))
 refine DC' h13 (fun e => Z' (Ref7.Kind_ok e) rfl) fun t71 h14 => ?_
 refine DN' h14 (fun e => n' e rfl) fun t72 h15 => ?_
 refine D' rfl (D' rfl ?_)
 rcases t72 with _ | _
 have h16 := bif_f h15
 refine D' rfl (D' rfl (D' rfl (D' rfl ?_)))
 exact R' (E := E1') h16
 have h16 := bif_t h15
 refine D' rfl (D' rfl (D' rfl ?_))
 refine DC' h16 (fun e => Z' (Arr.Kind_ok e) rfl) fun t78 h17 => ?_
 refine D' rfl (D' rfl (D' rfl ?_))
 refine DC' h17 (fun e => Z' (Ref7.Kind_ok e) rfl) fun t82 h18 => ?_
 refine DN' h18 (fun e => n' e rfl) fun t83 h19 => ?_
 refine D' rfl (D' rfl ?_)
 rcases t83 with _ | _
 have h20 := bif_f h19
 refine D' rfl (D' rfl ?_)
 exact R' (E := E1') h20
 have h20 := bif_t h19
 refine DC' h20 (fun e => Z' (Law7.Awake_ok e) rfl) fun t86 h21 => ?_
 refine D' rfl (D' rfl ?_)
 exact R' (E := E1') h21
end Go.Q
