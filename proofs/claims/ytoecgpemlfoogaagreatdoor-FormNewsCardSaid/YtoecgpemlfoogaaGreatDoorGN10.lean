import Derived.Test.YtoecgpemlfoogaaGreatDoorGN9
import Derived.Test.YtoecgpemlfoogaaGreatDoorFX
import Derived.Test.YtoecgpemlfoogaaGreatDoorProg
namespace Go.Q
open Go Go.Proofs
set_option maxRecDepth 10000
set_option maxHeartbeats 2000000

noncomputable def Ref3.New.j4 (text0 : ByteArray) (t15 : (List ByteArray)) (i9 : Int) (r6_0_5 : List api.Line) (r6_1_5 : Int) (r6_2_5 : ByteArray) (r6_3_5 : Int) (r6_4_5 : Bool) (r6_5_5 : Int) (now7_0_5 : ByteArray) (now7_1_5 : List Int) (goes8_1 : Int) (s10_2 : ByteArray) : Option (((List api.Line) × Int × ByteArray × Int × Bool × Int × ByteArray × (List Int) × Int × Int) ⊕ ((List api.Line) × Int × Int)) :=
  letk (IntKind.i64.wrap (i9 + (1 : Int))) fun t108 =>
  Option.bind (Ref3.written.add now7_0_5 now7_1_5 s10_2 t108) fun (o_0_3, o_1_3) =>
  letk (decide (goes8_1 > (0 : Int))) fun t111 =>
  bif t111 then
    letk (IntKind.i64.wrap (i9 + (1 : Int))) fun t25_1 =>
    some (.inl (r6_0_5, r6_1_5, r6_2_5, r6_3_5, r6_4_5, r6_5_5, o_0_3, o_1_3, goes8_1, t25_1))
  else
    Option.bind (Ref3.written.statements o_0_3 o_1_3 r6_0_5 r6_1_5 r6_2_5 r6_3_5 r6_4_5 r6_5_5) fun (o_0_4, o_1_4, o_2_2, o_3_2, o_4_2, o_5_2) =>
    letk (IntKind.i64.wrap (i9 + (1 : Int))) fun t25 =>
    some (.inl (o_0_4, o_1_4, o_2_2, o_3_2, o_4_2, o_5_2, ⟨#[]⟩, [], goes8_1, t25))

noncomputable def Ref3.New.j5 (text0 : ByteArray) (t15 : (List ByteArray)) (i9 : Int) (s10_1 : ByteArray) (t87 : ByteArray) (r6_0_6 : List api.Line) (r6_1_6 : Int) (r6_2_6 : ByteArray) (r6_3_6 : Int) (r6_4_6 : Bool) (r6_5_6 : Int) (now7_0_6 : ByteArray) (now7_1_6 : List Int) (t97 : Bool) : Option (((List api.Line) × Int × ByteArray × Int × Bool × Int × ByteArray × (List Int) × Int × Int) ⊕ ((List api.Line) × Int × Int)) :=
  bif t97 then
    letk ((t87.size : Int)) fun t100 =>
    letk (IntKind.i64.wrap (t100 - (1 : Int))) fun t101 =>
    chk (0 ≤ t101 ∧ t101 ≤ (t87.size : Int)) <|
    letk (t87.extract 0 t101.toNat) fun t102 =>
    letk (IntKind.i64.wrap (i9 + (1 : Int))) fun t104 =>
    Ref3.New.j4 text0 t15 i9 r6_0_6 r6_1_6 r6_2_6 r6_3_6 r6_4_6 r6_5_6 now7_0_6 now7_1_6 t104 t102
  else
    Ref3.New.j4 text0 t15 i9 r6_0_6 r6_1_6 r6_2_6 r6_3_6 r6_4_6 r6_5_6 now7_0_6 now7_1_6 0 s10_1

noncomputable def Ref3.New.j3 (text0 : ByteArray) (t15 : (List ByteArray)) (i9 : Int) (r6_0_4 : List api.Line) (r6_1_4 : Int) (r6_2_4 : ByteArray) (r6_3_4 : Int) (r6_4_4 : Bool) (r6_5_4 : Int) (now7_0_4 : ByteArray) (now7_1_4 : List Int) (s10_1 : ByteArray) : Option (((List api.Line) × Int × ByteArray × Int × Bool × Int × ByteArray × (List Int) × Int × Int) ⊕ ((List api.Line) × Int × Int)) :=
  Option.bind (Ref3.right s10_1) fun t87 =>
  letk (!(t87.toList == (⟨#[]⟩ : ByteArray).toList)) fun t89 =>
  bif t89 then
    letk ((t87.size : Int)) fun t93 =>
    letk (IntKind.i64.wrap (t93 - (1 : Int))) fun t94 =>
    chk (0 ≤ t94 ∧ t94 < (t87.size : Int)) <|
    letk (bt t87 t94) fun t95 =>
    letk (t95 == (38 : Int)) fun t96 =>
    Ref3.New.j5 text0 t15 i9 s10_1 t87 r6_0_4 r6_1_4 r6_2_4 r6_3_4 r6_4_4 r6_5_4 now7_0_4 now7_1_4 t96
  else
    Ref3.New.j5 text0 t15 i9 s10_1 t87 r6_0_4 r6_1_4 r6_2_4 r6_3_4 r6_4_4 r6_5_4 now7_0_4 now7_1_4 false

noncomputable def Ref3.New.j2 (text0 : ByteArray) (t15 : (List ByteArray)) (i9 : Int) (t38 : Int) (r6_0_3 : List api.Line) (r6_1_3 : Int) (r6_2_3 : ByteArray) (r6_3_3 : Int) (r6_4_3 : Bool) (r6_5_3 : Int) (now7_0_3 : ByteArray) (now7_1_3 : List Int) (s10 : ByteArray) : Option (((List api.Line) × Int × ByteArray × Int × Bool × Int × ByteArray × (List Int) × Int × Int) ⊕ ((List api.Line) × Int × Int)) :=
  Option.bind (Ref3.outside s10 t38 33) fun t80 =>
  letk (decide (t80 ≥ (0 : Int))) fun t82 =>
  bif t82 then
    chk (0 ≤ t80 ∧ t80 ≤ (s10.size : Int)) <|
    letk (s10.extract 0 t80.toNat) fun t85 =>
    Ref3.New.j3 text0 t15 i9 r6_0_3 r6_1_3 r6_2_3 r6_3_3 r6_4_3 r6_5_3 now7_0_3 now7_1_3 t85
  else
    Ref3.New.j3 text0 t15 i9 r6_0_3 r6_1_3 r6_2_3 r6_3_3 r6_4_3 r6_5_3 now7_0_3 now7_1_3 s10

noncomputable def Ref3.New.j7 (text0 : ByteArray) (t15 : (List ByteArray)) (i9 : Int) (t38 : Int) (r6_0_7 : List api.Line) (r6_1_7 : Int) (r6_2_7 : ByteArray) (r6_3_7 : Int) (r6_5_7 : Int) (now7_0_7 : ByteArray) (now7_1_7 : List Int) (s10_3 : ByteArray) (r6_4_8 : Bool) (t61 : Bool) : Option (((List api.Line) × Int × ByteArray × Int × Bool × Int × ByteArray × (List Int) × Int × Int) ⊕ ((List api.Line) × Int × Int)) :=
  bif t61 then
    chk (0 ≤ (1 : Int) ∧ (1 : Int) ≤ (s10_3.size : Int)) <|
    letk (s10_3.extract (1 : Int).toNat s10_3.size) fun t70 =>
    Ref3.New.j2 text0 t15 i9 t38 r6_0_7 r6_1_7 r6_2_7 r6_3_7 r6_4_8 r6_5_7 now7_0_7 now7_1_7 t70
  else
    letk (t38 != (0 : Int)) fun t73 =>
    bif t73 then
      letk (IntKind.i64.wrap (i9 + (1 : Int))) fun t76 =>
      Option.bind (Ref3.reader.wrong r6_0_7 r6_1_7 r6_2_7 r6_3_7 r6_4_8 r6_5_7 t76) fun (o_0_6, o_1_6, o_2_3, o_3_3, o_4_3, o_5_3) =>
      Ref3.New.j2 text0 t15 i9 t38 o_0_6 o_1_6 o_2_3 o_3_3 o_4_3 o_5_3 now7_0_7 now7_1_7 s10_3
    else
      letk (IntKind.i64.wrap (i9 + (1 : Int))) fun t59 =>
      Option.bind (Ref3.written.add now7_0_7 now7_1_7 ⟨#[32]⟩ t59) fun (o_0_5, o_1_5) =>
      Ref3.New.j2 text0 t15 i9 t38 r6_0_7 r6_1_7 r6_2_7 r6_3_7 r6_4_8 r6_5_7 o_0_5 o_1_5 s10_3

noncomputable def Ref3.New.j6 (text0 : ByteArray) (t15 : (List ByteArray)) (i9 : Int) (t38 : Int) (r6_0_7 : List api.Line) (r6_1_7 : Int) (r6_2_7 : ByteArray) (r6_3_7 : Int) (r6_4_7 : Bool) (r6_5_7 : Int) (now7_0_7 : ByteArray) (now7_1_7 : List Int) (s10_3 : ByteArray) : Option (((List api.Line) × Int × ByteArray × Int × Bool × Int × ByteArray × (List Int) × Int × Int) ⊕ ((List api.Line) × Int × Int)) :=
  letk (!(s10_3.toList == (⟨#[]⟩ : ByteArray).toList)) fun t63 =>
  bif t63 then
    chk (0 ≤ (0 : Int) ∧ (0 : Int) < (s10_3.size : Int)) <|
    letk (bt s10_3 (0 : Int)) fun t66 =>
    letk (t66 == (38 : Int)) fun t67 =>
    Ref3.New.j7 text0 t15 i9 t38 r6_0_7 r6_1_7 r6_2_7 r6_3_7 r6_5_7 now7_0_7 now7_1_7 s10_3 r6_4_7 t67
  else
    Ref3.New.j7 text0 t15 i9 t38 r6_0_7 r6_1_7 r6_2_7 r6_3_7 r6_5_7 now7_0_7 now7_1_7 s10_3 r6_4_7 false

noncomputable def Ref3.New.s1 (text0 : ByteArray) (t15 : (List ByteArray)) (i9 : Int) (t38 : Int) (r6_0_8 : List api.Line) (r6_1_8 : Int) (r6_2_8 : ByteArray) (r6_3_8 : Int) (r6_4_9 : Bool) (r6_5_8 : Int) (now7_0_8 : ByteArray) (now7_1_8 : List Int) (s10_4 : ByteArray) : Option (((List api.Line) × Int × ByteArray × Int × Bool × Int × ByteArray × (List Int) × ByteArray) ⊕ (((List api.Line) × Int × ByteArray × Int × Bool × Int × ByteArray × (List Int) × Int × Int) ⊕ ((List api.Line) × Int × Int))) :=
  letk ((s10_4.size : Int)) fun t48 =>
  letk (decide (t48 > (0 : Int))) fun t49 =>
  bif t49 then
    chk (0 ≤ (0 : Int) ∧ (0 : Int) < (s10_4.size : Int)) <|
    letk (bt s10_4 (0 : Int)) fun t52 =>
    letk (t52 == (32 : Int)) fun t53 =>
    bif t53 then
      chk (0 ≤ (1 : Int) ∧ (1 : Int) ≤ (s10_4.size : Int)) <|
      letk (s10_4.extract (1 : Int).toNat s10_4.size) fun t56 =>
      some (.inl (r6_0_8, r6_1_8, r6_2_8, r6_3_8, r6_4_9, r6_5_8, now7_0_8, now7_1_8, t56))
    else
      (Ref3.New.j6 text0 t15 i9 t38 r6_0_8 r6_1_8 r6_2_8 r6_3_8 r6_4_9 r6_5_8 now7_0_8 now7_1_8 s10_4).map .inr
  else
    (Ref3.New.j6 text0 t15 i9 t38 r6_0_8 r6_1_8 r6_2_8 r6_3_8 r6_4_9 r6_5_8 now7_0_8 now7_1_8 s10_4).map .inr

noncomputable def Ref3.New.l1 (text0 : ByteArray) (t15 : (List ByteArray)) (i9 : Int) (t38 : Int) (r6_0_8 : List api.Line) (r6_1_8 : Int) (r6_2_8 : ByteArray) (r6_3_8 : Int) (r6_4_9 : Bool) (r6_5_8 : Int) (now7_0_8 : ByteArray) (now7_1_8 : List Int) (s10_4 : ByteArray) : Option (((List api.Line) × Int × ByteArray × Int × Bool × Int × ByteArray × (List Int) × Int × Int) ⊕ ((List api.Line) × Int × Int)) := loopO (fun v : (List api.Line) × Int × ByteArray × Int × Bool × Int × ByteArray × (List Int) × ByteArray => Ref3.New.s1 text0 t15 i9 t38 v.1 v.2.1 v.2.2.1 v.2.2.2.1 v.2.2.2.2.1 v.2.2.2.2.2.1 v.2.2.2.2.2.2.1 v.2.2.2.2.2.2.2.1 v.2.2.2.2.2.2.2.2) (r6_0_8, r6_1_8, r6_2_8, r6_3_8, r6_4_9, r6_5_8, now7_0_8, now7_1_8, s10_4)
theorem Ref3.New.l1_eq (text0 : ByteArray) (t15 : (List ByteArray)) (i9 : Int) (t38 : Int) (r6_0_8 : List api.Line) (r6_1_8 : Int) (r6_2_8 : ByteArray) (r6_3_8 : Int) (r6_4_9 : Bool) (r6_5_8 : Int) (now7_0_8 : ByteArray) (now7_1_8 : List Int) (s10_4 : ByteArray) : Ref3.New.l1 text0 t15 i9 t38 r6_0_8 r6_1_8 r6_2_8 r6_3_8 r6_4_9 r6_5_8 now7_0_8 now7_1_8 s10_4 = (Ref3.New.s1 text0 t15 i9 t38 r6_0_8 r6_1_8 r6_2_8 r6_3_8 r6_4_9 r6_5_8 now7_0_8 now7_1_8 s10_4).bind (Sum.elim (fun v => Ref3.New.l1 text0 t15 i9 t38 v.1 v.2.1 v.2.2.1 v.2.2.2.1 v.2.2.2.2.1 v.2.2.2.2.2.1 v.2.2.2.2.2.2.1 v.2.2.2.2.2.2.2.1 v.2.2.2.2.2.2.2.2) some) := loopO_eq _ _

noncomputable def Ref3.New.j1 (text0 : ByteArray) (t15 : (List ByteArray)) (goes8 : Int) (i9 : Int) (t28 : ByteArray) (t38 : Int) (r6_0_2 : List api.Line) (r6_1_2 : Int) (r6_2_2 : ByteArray) (r6_3_2 : Int) (r6_4_2 : Bool) (r6_5_2 : Int) (now7_0_2 : ByteArray) (now7_1_2 : List Int) : Option (((List api.Line) × Int × ByteArray × Int × Bool × Int × ByteArray × (List Int) × Int × Int) ⊕ ((List api.Line) × Int × Int)) :=
  letk (decide (goes8 > (0 : Int))) fun t46 =>
  bif t46 then
    Ref3.New.l1 text0 t15 i9 t38 r6_0_2 r6_1_2 r6_2_2 r6_3_2 r6_4_2 r6_5_2 now7_0_2 now7_1_2 t28
  else
    Ref3.New.j2 text0 t15 i9 t38 r6_0_2 r6_1_2 r6_2_2 r6_3_2 r6_4_2 r6_5_2 now7_0_2 now7_1_2 t28

noncomputable def Ref3.New.j0 (text0 : ByteArray) (t15 : (List ByteArray)) (goes8 : Int) (i9 : Int) (t28 : ByteArray) (r6_0_1 : List api.Line) (r6_1_1 : Int) (r6_2_1 : ByteArray) (r6_3_1 : Int) (r6_4_1 : Bool) (r6_5_1 : Int) (now7_0_1 : ByteArray) (now7_1_1 : List Int) : Option (((List api.Line) × Int × ByteArray × Int × Bool × Int × ByteArray × (List Int) × Int × Int) ⊕ ((List api.Line) × Int × Int)) :=
  Option.bind (Ref3.written.open_ now7_0_1 now7_1_1) fun (o_0_2, o_1_2, t38) =>
  letk (t38 == (0 : Int)) fun t40 =>
  bif t40 then
    Option.bind (Ref3.Comment t28 false) fun t43 =>
    bif t43 then
      letk (IntKind.i64.wrap (i9 + (1 : Int))) fun t25_2 =>
      some (.inl (r6_0_1, r6_1_1, r6_2_1, r6_3_1, r6_4_1, r6_5_1, o_0_2, o_1_2, goes8, t25_2))
    else
      Ref3.New.j1 text0 t15 goes8 i9 t28 t38 r6_0_1 r6_1_1 r6_2_1 r6_3_1 r6_4_1 r6_5_1 o_0_2 o_1_2
  else
    Ref3.New.j1 text0 t15 goes8 i9 t28 t38 r6_0_1 r6_1_1 r6_2_1 r6_3_1 r6_4_1 r6_5_1 o_0_2 o_1_2

noncomputable def Ref3.New.s0 (text0 : ByteArray) (t15 : (List ByteArray)) (r6_0 : List api.Line) (r6_1 : Int) (r6_2 : ByteArray) (r6_3 : Int) (r6_4 : Bool) (r6_5 : Int) (now7_0 : ByteArray) (now7_1 : List Int) (goes8 : Int) (i9 : Int) : Option (((List api.Line) × Int × ByteArray × Int × Bool × Int × ByteArray × (List Int) × Int × Int) ⊕ ((List api.Line) × Int × Int)) :=
  letk ((t15.length : Int)) fun t22 =>
  letk (decide (i9 < t22)) fun t23 =>
  bif t23 then
    chk (0 ≤ i9) <|
    Option.bind (t15[i9.toNat]?) fun t28 =>
    Option.bind (Ref3.isLine t28 132) fun t31 =>
    letk (!t31) fun t32 =>
    bif t32 then
      letk (IntKind.i64.wrap (i9 + (1 : Int))) fun t35 =>
      Option.bind (Ref3.reader.wrong r6_0 r6_1 r6_2 r6_3 r6_4 r6_5 t35) fun (o_0_7, o_1_7, o_2_4, o_3_4, o_4_4, o_5_4) =>
      Ref3.New.j0 text0 t15 goes8 i9 t28 o_0_7 o_1_7 o_2_4 o_3_4 o_4_4 o_5_4 now7_0 now7_1
    else
      Ref3.New.j0 text0 t15 goes8 i9 t28 r6_0 r6_1 r6_2 r6_3 r6_4 r6_5 now7_0 now7_1
  else
    ((
    letk (decide (goes8 > (0 : Int))) fun t118 =>
    bif t118 then
      Option.bind (Ref3.reader.wrong r6_0 r6_1 r6_2 r6_3 r6_4 r6_5 goes8) fun (o_0, o_1, o_2, o_3, o_4, o_5) =>
      Option.bind (Ref3.written.statements now7_0 now7_1 o_0 o_1 o_2 o_3 o_4 o_5) fun (o_0_1, o_1_1, o_2_1, o_3_1, o_4_1, o_5_1) =>
      Option.bind (Ref3.reader.told o_0_1 o_1_1 o_2_1 o_3_1 o_4_1 o_5_1 text0) fun (t127_0_1, t127_1_1, t127_2_1) =>
      some (t127_0_1, t127_1_1, t127_2_1)
    else
      Option.bind (Ref3.reader.told r6_0 r6_1 r6_2 r6_3 r6_4 r6_5 text0) fun (t127_0, t127_1, t127_2) =>
      some (t127_0, t127_1, t127_2))).map .inr

noncomputable def Ref3.New.l0 (text0 : ByteArray) (t15 : (List ByteArray)) (r6_0 : List api.Line) (r6_1 : Int) (r6_2 : ByteArray) (r6_3 : Int) (r6_4 : Bool) (r6_5 : Int) (now7_0 : ByteArray) (now7_1 : List Int) (goes8 : Int) (i9 : Int) : Option ((List api.Line) × Int × Int) := loopO (fun v : (List api.Line) × Int × ByteArray × Int × Bool × Int × ByteArray × (List Int) × Int × Int => Ref3.New.s0 text0 t15 v.1 v.2.1 v.2.2.1 v.2.2.2.1 v.2.2.2.2.1 v.2.2.2.2.2.1 v.2.2.2.2.2.2.1 v.2.2.2.2.2.2.2.1 v.2.2.2.2.2.2.2.2.1 v.2.2.2.2.2.2.2.2.2) (r6_0, r6_1, r6_2, r6_3, r6_4, r6_5, now7_0, now7_1, goes8, i9)
theorem Ref3.New.l0_eq (text0 : ByteArray) (t15 : (List ByteArray)) (r6_0 : List api.Line) (r6_1 : Int) (r6_2 : ByteArray) (r6_3 : Int) (r6_4 : Bool) (r6_5 : Int) (now7_0 : ByteArray) (now7_1 : List Int) (goes8 : Int) (i9 : Int) : Ref3.New.l0 text0 t15 r6_0 r6_1 r6_2 r6_3 r6_4 r6_5 now7_0 now7_1 goes8 i9 = (Ref3.New.s0 text0 t15 r6_0 r6_1 r6_2 r6_3 r6_4 r6_5 now7_0 now7_1 goes8 i9).bind (Sum.elim (fun v => Ref3.New.l0 text0 t15 v.1 v.2.1 v.2.2.1 v.2.2.2.1 v.2.2.2.2.1 v.2.2.2.2.2.1 v.2.2.2.2.2.2.1 v.2.2.2.2.2.2.2.1 v.2.2.2.2.2.2.2.2.1 v.2.2.2.2.2.2.2.2.2) some) := loopO_eq _ _

noncomputable def Ref3.New (text0 : ByteArray) : Option ((List api.Line) × Int × Int) :=
  Option.bind (Ref3.split text0) fun t15 =>
  Ref3.New.l0 text0 t15 ([]) 0 (⟨#[]⟩) 0 false 0 (⟨#[]⟩) ([]) 0 0

theorem Ref3.New_ok {text0 : ByteArray} {r : (List api.Line) × Int × Int} (h0 : Ref3.New text0 = some r) : Gives Tryz.prog 20 [.lit (.string text0)] (.tup [.vs 3 (r.1.map (api.Line.enc)), .lit (.int .i64 r.2.1), .lit (.int .i64 r.2.2)]) := by
  unfold Ref3.New at h0
  refine ACalls.of_swp Tryz.func20 rfl (by decide) rfl (st0 := ⟨131, [(0, .lit (.string text0))], []⟩) rfl (bwp_ok (C := [(0, 11), (0, 13), (0, 21), (0, 24), (0, 28), (107, 55), (1, 4), (71, 37)]) ?_)
  obtain ⟨t15, et15, h1⟩ := bind_elim h0; clear h0
  conv => whnf
  refine Gate.go ?_
  conv => whnf
  refine CallN.by (v := .vs 1 (t15.map (eS))) (Ref3.split_ok et15) rfl rfl ?_
  conv => whnf
  refine Gate.go ?_
  conv => whnf
  refine Nm.mk ⟨[.nils, .lit (.int .i64 0), .lit (.string (⟨#[]⟩)), .lit (.int .i64 0), .lit (.bool false), .lit (.int .i64 0)], rfl, ?_⟩
  conv => whnf
  refine Nm.mk ⟨[.nils, .lit (.int .i64 0), .lit (.string (⟨#[]⟩)), .lit (.int .i64 0), .lit (.bool false), .lit (.int .i64 0)], rfl, ?_⟩
  conv => whnf
  refine Gate.go ?_
  conv => whnf
  refine Nm.mk ⟨[.lit (.string (⟨#[]⟩)), .nils], rfl, ?_⟩
  conv => whnf
  refine Nm.mk ⟨[.lit (.string (⟨#[]⟩)), .nils], rfl, ?_⟩
  conv => whnf
  unfold Ref3.New.l0 at h1
  refine LoopB.of (σ := (List api.Line) × Int × ByteArray × Int × Bool × Int × ByteArray × (List Int) × Int × Int) (ρ := (List api.Line) × Int × Int) (fun v : (List api.Line) × Int × ByteArray × Int × Bool × Int × ByteArray × (List Int) × Int × Int => Ref3.New.s0 text0 t15 v.1 v.2.1 v.2.2.1 v.2.2.2.1 v.2.2.2.2.1 v.2.2.2.2.2.1 v.2.2.2.2.2.2.1 v.2.2.2.2.2.2.2.1 v.2.2.2.2.2.2.2.2.1 v.2.2.2.2.2.2.2.2.2) (fun v => (⟨131, [(0, .lit (.string text0)), (5, .vs 1 (t15.map (eS))), (6, .ptr 0 0), (7, .ptr 2 0), (8, .lit (.int .i64 v.2.2.2.2.2.2.2.2.1)), (9, .lit (.int .i64 v.2.2.2.2.2.2.2.2.2))], [.box [.ref 1 0 ((v.1.map (api.Line.enc)).length), .lit (.int .i64 v.2.1), .lit (.string v.2.2.1), .lit (.int .i64 v.2.2.2.1), .lit (.bool v.2.2.2.2.1), .lit (.int .i64 v.2.2.2.2.2.1)], .arr 3 (v.1.map (api.Line.enc)), .box [.lit (.string v.2.2.2.2.2.2.1), .ref 3 0 ((v.2.2.2.2.2.2.2.1.map (eI .i64)).length)], .arr 1 (v.2.2.2.2.2.2.2.1.map (eI .i64))]⟩ : St)) ([], 0, ⟨#[]⟩, 0, false, 0, ⟨#[]⟩, [], 0, 0) h1 (BackS.of (Sees.trans (s' := (⟨131, [(0, .lit (.string text0)), (5, .vs 1 (t15.map (eS))), (6, .ptr 0 0), (7, .ptr 1 0), (8, .lit (.int .i64 0)), (9, .lit (.int .i64 0))], [.box [.ref 2 0 ((([]).map (api.Line.enc)).length), .lit (.int .i64 0), .lit (.string ((⟨#[]⟩))), .lit (.int .i64 0), .lit (.bool false), .lit (.int .i64 0)], .box [.lit (.string ((⟨#[]⟩))), .ref 3 0 ((([]).map (eI .i64)).length)], .arr 3 ((([])).map (api.Line.enc)), .arr 1 ((([])).map (eI .i64))]⟩ : St)) (Sees.of (Weak.objs (keep := [0, 1]) (frz := []) (m := 2) (ts := [(0, .lit (.string text0)), (5, .vs 1 (t15.map (eS))), (6, .ptr 0 0), (7, .ptr 1 0), (8, .lit (.int .i64 0)), (9, .lit (.int .i64 0))]) (hs := [.box [.ref 2 0 ((([]).map (api.Line.enc)).length), .lit (.int .i64 0), .lit (.string ((⟨#[]⟩))), .lit (.int .i64 0), .lit (.bool false), .lit (.int .i64 0)], .box [.lit (.string ((⟨#[]⟩))), .ref 3 0 ((([]).map (eI .i64)).length)], .arr 3 ((([])).map (api.Line.enc)), .arr 1 ((([])).map (eI .i64))]) rfl (by decide) rfl rfl ⟨⟨_, rfl, WO.boxs ⟨(.nilsRef 2 (by decide) (by decide)), (.same (.lit (.int .i64 0)) rfl), (.same (.lit (.string (⟨#[]⟩))) rfl), (.same (.lit (.int .i64 0)) rfl), (.same (.lit (.bool false)) rfl), (.same (.lit (.int .i64 0)) rfl), trivial⟩⟩, ⟨⟨_, rfl, WO.boxs ⟨(.same (.lit (.string (⟨#[]⟩))) rfl), (.nilsRef 3 (by decide) (by decide)), trivial⟩⟩, ⟨rfl, fun ob ho => by simp only [List.mem_cons, List.not_mem_nil, or_false] at ho; rcases ho with ho | ho <;> exact ⟨_, ho⟩⟩⟩⟩ ⟨(.same (.lit (.string text0)) rfl), (.same (.vs 1 (t15.map (eS))) rfl), (.ptr _ _ 0 rfl), (.ptr _ _ 1 rfl), (.same (.lit (.int .i64 0)) rfl), (.same (.lit (.int .i64 0)) rfl), trivial⟩)) (Sees.of (Weak.objs (keep := [0, 2, 1, 3]) (frz := []) (m := 0) (ts := [(0, .lit (.string text0)), (5, .vs 1 (t15.map (eS))), (6, .ptr 0 0), (7, .ptr 2 0), (8, .lit (.int .i64 0)), (9, .lit (.int .i64 0))]) (hs := [.box [.ref 1 0 ((([]).map (api.Line.enc)).length), .lit (.int .i64 0), .lit (.string ((⟨#[]⟩))), .lit (.int .i64 0), .lit (.bool false), .lit (.int .i64 0)], .arr 3 ((([])).map (api.Line.enc)), .box [.lit (.string ((⟨#[]⟩))), .ref 3 0 ((([]).map (eI .i64)).length)], .arr 1 ((([])).map (eI .i64))]) rfl (by decide) rfl rfl ⟨⟨_, rfl, WO.boxs ⟨(.ref _ _ _ 1 rfl), (.same (.lit (.int .i64 0)) rfl), (.same (.lit (.string ((⟨#[]⟩)))) rfl), (.same (.lit (.int .i64 0)) rfl), (.same (.lit (.bool false)) rfl), (.same (.lit (.int .i64 0)) rfl), trivial⟩⟩, ⟨⟨_, rfl, .arr _ _⟩, ⟨⟨_, rfl, WO.boxs ⟨(.same (.lit (.string ((⟨#[]⟩)))) rfl), (.ref _ _ _ 3 rfl), trivial⟩⟩, ⟨⟨_, rfl, .arr _ _⟩, ⟨rfl, fun _ h => by cases h⟩⟩⟩⟩⟩ ⟨(.same (.lit (.string text0)) rfl), (.same (.vs 1 (t15.map (eS))) rfl), (.ptr _ _ 0 rfl), (.ptr _ _ 2 rfl), (.same (.lit (.int .i64 0)) rfl), (.same (.lit (.int .i64 0)) rfl), trivial⟩))) rfl) ?_
  clear h1
  rintro K1 ⟨r6_0, r6_1, r6_2, r6_3, r6_4, r6_5, now7_0, now7_1, goes8, i9⟩ x1 hs0_0 hl1 hr1
  replace hs0_0 : Ref3.New.s0 text0 t15 r6_0 r6_1 r6_2 r6_3 r6_4 r6_5 now7_0 now7_1 goes8 i9 = some x1 := hs0_0
  unfold Ref3.New.s0 at hs0_0
  change bwp _ _ _ _ _ (⟨131, [(0, .lit (.string text0)), (5, .vs 1 (t15.map (eS))), (6, .ptr 0 0), (7, .ptr 2 0), (8, .lit (.int .i64 goes8)), (9, .lit (.int .i64 i9))], [.box [.ref 1 0 ((r6_0.map (api.Line.enc)).length), .lit (.int .i64 r6_1), .lit (.string r6_2), .lit (.int .i64 r6_3), .lit (.bool r6_4), .lit (.int .i64 r6_5)], .arr 3 (r6_0.map (api.Line.enc)), .box [.lit (.string now7_0), .ref 3 0 ((now7_1.map (eI .i64)).length)], .arr 1 (now7_1.map (eI .i64))]⟩ : St)
  obtain ⟨t22, et22, hs0_1⟩ := letk_elim hs0_0; clear hs0_0
  conv => whnf
  refine Nm.mk ⟨t22, by rw [et22, List.length_map], ?_⟩
  obtain ⟨t23, et23, hs0_2⟩ := letk_elim hs0_1; clear hs0_1
  conv => whnf
  refine Nm.mk ⟨t23, et23, ?_⟩
  rcases t23 with _ | _
  · have hs0_3 := bif_f hs0_2
    clear hs0_2
    obtain ⟨yhs0_3_0, hs0_3u, ehs0_3_0⟩ := map_elim hs0_3
    have ehs0_3_0 := (hr1 _ ehs0_3_0.symm).symm
    subst ehs0_3_0
    obtain ⟨t118, et118, hs0_3u0⟩ := letk_elim hs0_3u; clear hs0_3u
    conv => whnf
    refine Nm.mk ⟨t118, et118, ?_⟩
    rcases t118 with _ | _
    · have hs0_3u1 := bif_f hs0_3u0
      clear hs0_3u0
      obtain ⟨⟨t127_0, t127_1, t127_2⟩, ee_t127, hs0_3u2⟩ := bind_elim hs0_3u1; clear hs0_3u1
      conv => whnf
      refine Gate.weak (Sees.of (Weak.objs (keep := [0, 1]) (frz := []) (m := 0) (ts := [(125, .ptr 0 0), (126, .lit (.string text0))]) (hs := [.box [.ref 1 0 ((r6_0.map (api.Line.enc)).length), .lit (.int .i64 r6_1), .lit (.string r6_2), .lit (.int .i64 r6_3), .lit (.bool r6_4), .lit (.int .i64 r6_5)], .arr 3 (r6_0.map (api.Line.enc))]) rfl (by decide) rfl rfl ⟨⟨_, rfl, WO.boxs ⟨(.ref _ _ _ 1 rfl), (.same (.lit (.int .i64 r6_1)) rfl), (.same (.lit (.string r6_2)) rfl), (.same (.lit (.int .i64 r6_3)) rfl), (.same (.lit (.bool r6_4)) rfl), (.same (.lit (.int .i64 r6_5)) rfl), trivial⟩⟩, ⟨⟨_, rfl, .arr _ _⟩, ⟨rfl, fun _ h => by cases h⟩⟩⟩ ⟨(.ptr _ _ 0 rfl), (.same (.lit (.string text0)) rfl), trivial⟩)) ?_
      conv => whnf
      refine CallN.hand (k := 1) (v := .tup [.vs 3 (t127_0.map (api.Line.enc)), .lit (.int .i64 t127_1), .lit (.int .i64 t127_2)]) (hs' := [.box [.undef, .undef, .undef, .undef, .undef, .undef]]) (ts' := [(125, .ptr 0 0), (126, .lit (.string text0))]) (Ref3.reader.told_ok ee_t127) rfl rfl ?_
      have ehs0_3u2_0 := Option.some.inj hs0_3u2
      subst ehs0_3u2_0
      conv => whnf
      exact Returns.pure (r := .tup [.vs 3 (t127_0.map (api.Line.enc)), .lit (.int .i64 t127_1), .lit (.int .i64 t127_2)]) rfl rfl rfl rfl ⟨rfl, rfl⟩
    · have hs0_3u1 := bif_t hs0_3u0
      clear hs0_3u0
      obtain ⟨⟨o_0, o_1, o_2, o_3, o_4, o_5⟩, ee_t121, hs0_3u2⟩ := bind_elim hs0_3u1; clear hs0_3u1
      conv => whnf
      refine Gate.weak (Sees.of (Weak.objs (keep := [0, 1, 2, 3]) (frz := []) (m := 0) (ts := [(0, .lit (.string text0)), (6, .ptr 0 0), (7, .ptr 2 0), (119, .ptr 0 0), (120, .lit (.int .i64 goes8))]) (hs := [.box [.ref 1 0 ((r6_0.map (api.Line.enc)).length), .lit (.int .i64 r6_1), .lit (.string r6_2), .lit (.int .i64 r6_3), .lit (.bool r6_4), .lit (.int .i64 r6_5)], .arr 3 (r6_0.map (api.Line.enc)), .box [.lit (.string now7_0), .ref 3 0 ((now7_1.map (eI .i64)).length)], .arr 1 (now7_1.map (eI .i64))]) rfl (by decide) rfl rfl ⟨⟨_, rfl, WO.boxs ⟨(.ref _ _ _ 1 rfl), (.same (.lit (.int .i64 r6_1)) rfl), (.same (.lit (.string r6_2)) rfl), (.same (.lit (.int .i64 r6_3)) rfl), (.same (.lit (.bool r6_4)) rfl), (.same (.lit (.int .i64 r6_5)) rfl), trivial⟩⟩, ⟨⟨_, rfl, .arr _ _⟩, ⟨⟨_, rfl, WO.boxs ⟨(.same (.lit (.string now7_0)) rfl), (.ref _ _ _ 3 rfl), trivial⟩⟩, ⟨⟨_, rfl, .arr _ _⟩, ⟨rfl, fun _ h => by cases h⟩⟩⟩⟩⟩ ⟨(.same (.lit (.string text0)) rfl), (.ptr _ _ 0 rfl), (.ptr _ _ 2 rfl), (.ptr _ _ 0 rfl), (.same (.lit (.int .i64 goes8)) rfl), trivial⟩)) ?_
      conv => whnf
      refine CallN.handF (k := 1) (m := 2) (v := .tup []) (hs' := [.box [.ref 1 0 ((o_0.map (api.Line.enc)).length), .lit (.int .i64 o_1), .lit (.string o_2), .lit (.int .i64 o_3), .lit (.bool o_4), .lit (.int .i64 o_5)], .arr 3 (o_0.map (api.Line.enc))]) (rest := [.box [.lit (.string now7_0), .ref 3 0 ((now7_1.map (eI .i64)).length)], .arr 1 (now7_1.map (eI .i64))]) (hs2 := [.box [.ref 1 0 ((o_0.map (api.Line.enc)).length), .lit (.int .i64 o_1), .lit (.string o_2), .lit (.int .i64 o_3), .lit (.bool o_4), .lit (.int .i64 o_5)], .arr 3 (o_0.map (api.Line.enc)), .box [.lit (.string now7_0), .ref 3 0 ((now7_1.map (eI .i64)).length)], .arr 1 (now7_1.map (eI .i64))]) (ts' := [(0, .lit (.string text0)), (6, .ptr 0 0), (7, .ptr 2 0), (119, .ptr 0 0), (120, .lit (.int .i64 goes8))]) (Ref3.reader.wrong_ok ee_t121) rfl rfl rfl rfl rfl rfl rfl rfl rfl ?_
      obtain ⟨⟨o_0_1, o_1_1, o_2_1, o_3_1, o_4_1, o_5_1⟩, ee_t124, hs0_3u3⟩ := bind_elim hs0_3u2; clear hs0_3u2
      conv => whnf
      refine Gate.weak (Sees.trans (s' := (⟨131, [(0, .lit (.string text0)), (6, .ptr 0 0), (122, .iptr (.agg [.lit (.string now7_0), .vs 1 (now7_1.map (eI .i64))])), (123, .ptr 0 0)], [.box [.ref 1 0 ((o_0.map (api.Line.enc)).length), .lit (.int .i64 o_1), .lit (.string o_2), .lit (.int .i64 o_3), .lit (.bool o_4), .lit (.int .i64 o_5)], .arr 3 (o_0.map (api.Line.enc))]⟩ : St)) (Sees.trans (s' := (⟨131, [(0, .lit (.string text0)), (6, .ptr 0 0), (122, .ptr 2 0), (123, .ptr 0 0)], [.box [.ref 1 0 ((o_0.map (api.Line.enc)).length), .lit (.int .i64 o_1), .lit (.string o_2), .lit (.int .i64 o_3), .lit (.bool o_4), .lit (.int .i64 o_5)], .arr 3 (o_0.map (api.Line.enc)), .box [.lit (.string now7_0), .vs 1 (now7_1.map (eI .i64))]]⟩ : St)) (Sees.of (Weak.objs (keep := [0, 1, 2]) (frz := [3]) (m := 0) (ts := [(0, .lit (.string text0)), (6, .ptr 0 0), (122, .ptr 2 0), (123, .ptr 0 0)]) (hs := [.box [.ref 1 0 ((o_0.map (api.Line.enc)).length), .lit (.int .i64 o_1), .lit (.string o_2), .lit (.int .i64 o_3), .lit (.bool o_4), .lit (.int .i64 o_5)], .arr 3 (o_0.map (api.Line.enc)), .box [.lit (.string now7_0), .vs 1 (now7_1.map (eI .i64))]]) rfl (by decide) rfl rfl ⟨⟨_, rfl, WO.boxs ⟨(.ref _ _ _ 1 rfl), (.same (.lit (.int .i64 o_1)) rfl), (.same (.lit (.string o_2)) rfl), (.same (.lit (.int .i64 o_3)) rfl), (.same (.lit (.bool o_4)) rfl), (.same (.lit (.int .i64 o_5)) rfl), trivial⟩⟩, ⟨⟨_, rfl, .arr _ _⟩, ⟨⟨_, rfl, WO.boxs ⟨(.same (.lit (.string now7_0)) rfl), (WV.all (k := 3) (by decide) rfl), trivial⟩⟩, ⟨rfl, fun _ h => by cases h⟩⟩⟩⟩ ⟨(.same (.lit (.string text0)) rfl), (.ptr _ _ 0 rfl), (.ptr _ _ 2 rfl), (.ptr _ _ 0 rfl), trivial⟩)) (Sees.of (Weak.objs (keep := [0, 1]) (frz := [2]) (m := 0) (ts := [(0, .lit (.string text0)), (6, .ptr 0 0), (122, .iptr (.agg [.lit (.string now7_0), .vs 1 (now7_1.map (eI .i64))])), (123, .ptr 0 0)]) (hs := [.box [.ref 1 0 ((o_0.map (api.Line.enc)).length), .lit (.int .i64 o_1), .lit (.string o_2), .lit (.int .i64 o_3), .lit (.bool o_4), .lit (.int .i64 o_5)], .arr 3 (o_0.map (api.Line.enc))]) rfl (by decide) rfl rfl ⟨⟨_, rfl, WO.boxs ⟨(.ref _ _ _ 1 rfl), (.same (.lit (.int .i64 o_1)) rfl), (.same (.lit (.string o_2)) rfl), (.same (.lit (.int .i64 o_3)) rfl), (.same (.lit (.bool o_4)) rfl), (.same (.lit (.int .i64 o_5)) rfl), trivial⟩⟩, ⟨⟨_, rfl, .arr _ _⟩, ⟨rfl, fun _ h => by cases h⟩⟩⟩ ⟨(.same (.lit (.string text0)) rfl), (.ptr _ _ 0 rfl), (.ptrFrz 2 _ (by decide) rfl rfl), (.ptr _ _ 0 rfl), trivial⟩))) (Sees.of (Weak.objs (keep := [0, 1]) (frz := []) (m := 0) (ts := [(0, .lit (.string text0)), (6, .ptr 0 0), (122, .iptr (.agg [.lit (.string now7_0), .vs 1 (now7_1.map (eI .i64))])), (123, .ptr 0 0)]) (hs := [.box [.ref 1 0 ((o_0.map (api.Line.enc)).length), .lit (.int .i64 o_1), .lit (.string o_2), .lit (.int .i64 o_3), .lit (.bool o_4), .lit (.int .i64 o_5)], .arr 3 (o_0.map (api.Line.enc))]) rfl (by decide) rfl rfl ⟨⟨_, rfl, WO.boxs ⟨(.ref _ _ _ 1 rfl), (.same (.lit (.int .i64 o_1)) rfl), (.same (.lit (.string o_2)) rfl), (.same (.lit (.int .i64 o_3)) rfl), (.same (.lit (.bool o_4)) rfl), (.same (.lit (.int .i64 o_5)) rfl), trivial⟩⟩, ⟨⟨_, rfl, .arr _ _⟩, ⟨rfl, fun _ h => by cases h⟩⟩⟩ ⟨(.same (.lit (.string text0)) rfl), (.ptr _ _ 0 rfl), (.same (.iptr (.agg [.lit (.string now7_0), .vs 1 (now7_1.map (eI .i64))])) rfl), (.ptr _ _ 0 rfl), trivial⟩))) ?_
      conv => whnf
      refine CallN.hand (k := 1) (v := .tup []) (hs' := [.box [.ref 1 0 ((o_0_1.map (api.Line.enc)).length), .lit (.int .i64 o_1_1), .lit (.string o_2_1), .lit (.int .i64 o_3_1), .lit (.bool o_4_1), .lit (.int .i64 o_5_1)], .arr 3 (o_0_1.map (api.Line.enc))]) (ts' := [(0, .lit (.string text0)), (6, .ptr 0 0), (122, .iptr (.agg [.lit (.string now7_0), .vs 1 (now7_1.map (eI .i64))])), (123, .ptr 0 0)]) (Ref3.written.statements_ok ee_t124) rfl rfl ?_
      obtain ⟨⟨t127_0_1, t127_1_1, t127_2_1⟩, ee_t127_1, hs0_3u4⟩ := bind_elim hs0_3u3; clear hs0_3u3
      conv => whnf
      refine Gate.weak (Sees.of (Weak.objs (keep := [0, 1]) (frz := []) (m := 0) (ts := [(125, .ptr 0 0), (126, .lit (.string text0))]) (hs := [.box [.ref 1 0 ((o_0_1.map (api.Line.enc)).length), .lit (.int .i64 o_1_1), .lit (.string o_2_1), .lit (.int .i64 o_3_1), .lit (.bool o_4_1), .lit (.int .i64 o_5_1)], .arr 3 (o_0_1.map (api.Line.enc))]) rfl (by decide) rfl rfl ⟨⟨_, rfl, WO.boxs ⟨(.ref _ _ _ 1 rfl), (.same (.lit (.int .i64 o_1_1)) rfl), (.same (.lit (.string o_2_1)) rfl), (.same (.lit (.int .i64 o_3_1)) rfl), (.same (.lit (.bool o_4_1)) rfl), (.same (.lit (.int .i64 o_5_1)) rfl), trivial⟩⟩, ⟨⟨_, rfl, .arr _ _⟩, ⟨rfl, fun _ h => by cases h⟩⟩⟩ ⟨(.ptr _ _ 0 rfl), (.same (.lit (.string text0)) rfl), trivial⟩)) ?_
      conv => whnf
      refine CallN.hand (k := 1) (v := .tup [.vs 3 (t127_0_1.map (api.Line.enc)), .lit (.int .i64 t127_1_1), .lit (.int .i64 t127_2_1)]) (hs' := [.box [.undef, .undef, .undef, .undef, .undef, .undef]]) (ts' := [(125, .ptr 0 0), (126, .lit (.string text0))]) (Ref3.reader.told_ok ee_t127_1) rfl rfl ?_
      have ehs0_3u4_0 := Option.some.inj hs0_3u4
      subst ehs0_3u4_0
      conv => whnf
      exact Returns.pure (r := .tup [.vs 3 (t127_0_1.map (api.Line.enc)), .lit (.int .i64 t127_1_1), .lit (.int .i64 t127_2_1)]) rfl rfl rfl rfl ⟨rfl, rfl⟩
  · have hs0_3 := bif_t hs0_2
    clear hs0_2
    obtain ⟨chs0_4, hs0_4⟩ := chk_elim hs0_3; clear hs0_3
    obtain ⟨t28, et28, hs0_5⟩ := bind_elim hs0_4; clear hs0_4
    conv => whnf
    refine Side.mk chs0_4 ?_
    conv => whnf
    refine At.by et28 ?_
    conv => whnf
    refine CutN.of (fun s => ∃ (r6_0_1 : List api.Line) (r6_1_1 : Int) (r6_2_1 : ByteArray) (r6_3_1 : Int) (r6_4_1 : Bool) (r6_5_1 : Int) (now7_0_1 : ByteArray) (now7_1_1 : List Int), Ref3.New.j0 text0 t15 goes8 i9 t28 r6_0_1 r6_1_1 r6_2_1 r6_3_1 r6_4_1 r6_5_1 now7_0_1 now7_1_1 = some x1 ∧ s = (⟨131, [(0, .lit (.string text0)), (5, .vs 1 (t15.map (eS))), (6, .ptr 0 0), (7, .ptr 2 0), (8, .lit (.int .i64 goes8)), (9, .lit (.int .i64 i9)), (10, .lit (.string t28))], [.box [.ref 1 0 ((r6_0_1.map (api.Line.enc)).length), .lit (.int .i64 r6_1_1), .lit (.string r6_2_1), .lit (.int .i64 r6_3_1), .lit (.bool r6_4_1), .lit (.int .i64 r6_5_1)], .arr 3 (r6_0_1.map (api.Line.enc)), .box [.lit (.string now7_0_1), .ref 3 0 ((now7_1_1.map (eI .i64)).length)], .arr 1 (now7_1_1.map (eI .i64))]⟩ : St)) ?_ ?_
    · obtain ⟨t31, et31, hs0_6⟩ := bind_elim hs0_5; clear hs0_5
      conv => whnf
      refine Gate.go ?_
      conv => whnf
      refine CallN.by (v := .lit (.bool t31)) (Ref3.isLine_ok et31) rfl rfl ?_
      obtain ⟨t32, et32, hs0_7⟩ := letk_elim hs0_6; clear hs0_6
      conv => whnf
      refine Nm.mk ⟨t32, et32, ?_⟩
      rcases t32 with _ | _
      · have hs0_8 := bif_f hs0_7
        clear hs0_7
        exact BackS.of (Sees.of (Weak.objs (keep := [0, 1, 2, 3]) (frz := []) (m := 0) (ts := [(0, .lit (.string text0)), (5, .vs 1 (t15.map (eS))), (6, .ptr 0 0), (7, .ptr 2 0), (8, .lit (.int .i64 goes8)), (9, .lit (.int .i64 i9)), (10, .lit (.string t28))]) (hs := [.box [.ref 1 0 ((r6_0.map (api.Line.enc)).length), .lit (.int .i64 r6_1), .lit (.string r6_2), .lit (.int .i64 r6_3), .lit (.bool r6_4), .lit (.int .i64 r6_5)], .arr 3 (r6_0.map (api.Line.enc)), .box [.lit (.string now7_0), .ref 3 0 ((now7_1.map (eI .i64)).length)], .arr 1 (now7_1.map (eI .i64))]) rfl (by decide) rfl rfl ⟨⟨_, rfl, WO.boxs ⟨(.ref _ _ _ 1 rfl), (.same (.lit (.int .i64 r6_1)) rfl), (.same (.lit (.string r6_2)) rfl), (.same (.lit (.int .i64 r6_3)) rfl), (.same (.lit (.bool r6_4)) rfl), (.same (.lit (.int .i64 r6_5)) rfl), trivial⟩⟩, ⟨⟨_, rfl, .arr _ _⟩, ⟨⟨_, rfl, WO.boxs ⟨(.same (.lit (.string now7_0)) rfl), (.ref _ _ _ 3 rfl), trivial⟩⟩, ⟨⟨_, rfl, .arr _ _⟩, ⟨rfl, fun _ h => by cases h⟩⟩⟩⟩⟩ ⟨(.same (.lit (.string text0)) rfl), (.same (.vs 1 (t15.map (eS))) rfl), (.ptr _ _ 0 rfl), (.ptr _ _ 2 rfl), (.same (.lit (.int .i64 goes8)) rfl), (.same (.lit (.int .i64 i9)) rfl), (.same (.lit (.string t28)) rfl), trivial⟩)) ⟨_, _, _, _, _, _, _, _, hs0_8, rfl⟩
      · have hs0_8 := bif_t hs0_7
        clear hs0_7
        obtain ⟨t35, et35, hs0_9⟩ := letk_elim hs0_8; clear hs0_8
        conv => whnf
        refine Nm.mk ⟨t35, et35, ?_⟩
        obtain ⟨⟨o_0_7, o_1_7, o_2_4, o_3_4, o_4_4, o_5_4⟩, ee_t36, hs0_10⟩ := bind_elim hs0_9; clear hs0_9
        conv => whnf
        refine Gate.weak (Sees.of (Weak.objs (keep := [0, 1, 2, 3]) (frz := []) (m := 0) (ts := [(0, .lit (.string text0)), (5, .vs 1 (t15.map (eS))), (6, .ptr 0 0), (7, .ptr 2 0), (8, .lit (.int .i64 goes8)), (9, .lit (.int .i64 i9)), (10, .lit (.string t28)), (33, .ptr 0 0), (35, .lit (.int .i64 t35))]) (hs := [.box [.ref 1 0 ((r6_0.map (api.Line.enc)).length), .lit (.int .i64 r6_1), .lit (.string r6_2), .lit (.int .i64 r6_3), .lit (.bool r6_4), .lit (.int .i64 r6_5)], .arr 3 (r6_0.map (api.Line.enc)), .box [.lit (.string now7_0), .ref 3 0 ((now7_1.map (eI .i64)).length)], .arr 1 (now7_1.map (eI .i64))]) rfl (by decide) rfl rfl ⟨⟨_, rfl, WO.boxs ⟨(.ref _ _ _ 1 rfl), (.same (.lit (.int .i64 r6_1)) rfl), (.same (.lit (.string r6_2)) rfl), (.same (.lit (.int .i64 r6_3)) rfl), (.same (.lit (.bool r6_4)) rfl), (.same (.lit (.int .i64 r6_5)) rfl), trivial⟩⟩, ⟨⟨_, rfl, .arr _ _⟩, ⟨⟨_, rfl, WO.boxs ⟨(.same (.lit (.string now7_0)) rfl), (.ref _ _ _ 3 rfl), trivial⟩⟩, ⟨⟨_, rfl, .arr _ _⟩, ⟨rfl, fun _ h => by cases h⟩⟩⟩⟩⟩ ⟨(.same (.lit (.string text0)) rfl), (.same (.vs 1 (t15.map (eS))) rfl), (.ptr _ _ 0 rfl), (.ptr _ _ 2 rfl), (.same (.lit (.int .i64 goes8)) rfl), (.same (.lit (.int .i64 i9)) rfl), (.same (.lit (.string t28)) rfl), (.ptr _ _ 0 rfl), (.same (.lit (.int .i64 t35)) rfl), trivial⟩)) ?_
        conv => whnf
        refine CallN.handF (k := 1) (m := 2) (v := .tup []) (hs' := [.box [.ref 1 0 ((o_0_7.map (api.Line.enc)).length), .lit (.int .i64 o_1_7), .lit (.string o_2_4), .lit (.int .i64 o_3_4), .lit (.bool o_4_4), .lit (.int .i64 o_5_4)], .arr 3 (o_0_7.map (api.Line.enc))]) (rest := [.box [.lit (.string now7_0), .ref 3 0 ((now7_1.map (eI .i64)).length)], .arr 1 (now7_1.map (eI .i64))]) (hs2 := [.box [.ref 1 0 ((o_0_7.map (api.Line.enc)).length), .lit (.int .i64 o_1_7), .lit (.string o_2_4), .lit (.int .i64 o_3_4), .lit (.bool o_4_4), .lit (.int .i64 o_5_4)], .arr 3 (o_0_7.map (api.Line.enc)), .box [.lit (.string now7_0), .ref 3 0 ((now7_1.map (eI .i64)).length)], .arr 1 (now7_1.map (eI .i64))]) (ts' := [(0, .lit (.string text0)), (5, .vs 1 (t15.map (eS))), (6, .ptr 0 0), (7, .ptr 2 0), (8, .lit (.int .i64 goes8)), (9, .lit (.int .i64 i9)), (10, .lit (.string t28)), (33, .ptr 0 0), (35, .lit (.int .i64 t35))]) (Ref3.reader.wrong_ok ee_t36) rfl rfl rfl rfl rfl rfl rfl rfl rfl ?_
        exact BackS.of (Sees.of (Weak.objs (keep := [0, 1, 2, 3]) (frz := []) (m := 0) (ts := [(0, .lit (.string text0)), (5, .vs 1 (t15.map (eS))), (6, .ptr 0 0), (7, .ptr 2 0), (8, .lit (.int .i64 goes8)), (9, .lit (.int .i64 i9)), (10, .lit (.string t28))]) (hs := [.box [.ref 1 0 ((o_0_7.map (api.Line.enc)).length), .lit (.int .i64 o_1_7), .lit (.string o_2_4), .lit (.int .i64 o_3_4), .lit (.bool o_4_4), .lit (.int .i64 o_5_4)], .arr 3 (o_0_7.map (api.Line.enc)), .box [.lit (.string now7_0), .ref 3 0 ((now7_1.map (eI .i64)).length)], .arr 1 (now7_1.map (eI .i64))]) rfl (by decide) rfl rfl ⟨⟨_, rfl, WO.boxs ⟨(.ref _ _ _ 1 rfl), (.same (.lit (.int .i64 o_1_7)) rfl), (.same (.lit (.string o_2_4)) rfl), (.same (.lit (.int .i64 o_3_4)) rfl), (.same (.lit (.bool o_4_4)) rfl), (.same (.lit (.int .i64 o_5_4)) rfl), trivial⟩⟩, ⟨⟨_, rfl, .arr _ _⟩, ⟨⟨_, rfl, WO.boxs ⟨(.same (.lit (.string now7_0)) rfl), (.ref _ _ _ 3 rfl), trivial⟩⟩, ⟨⟨_, rfl, .arr _ _⟩, ⟨rfl, fun _ h => by cases h⟩⟩⟩⟩⟩ ⟨(.same (.lit (.string text0)) rfl), (.same (.vs 1 (t15.map (eS))) rfl), (.ptr _ _ 0 rfl), (.ptr _ _ 2 rfl), (.same (.lit (.int .i64 goes8)) rfl), (.same (.lit (.int .i64 i9)) rfl), (.same (.lit (.string t28)) rfl), trivial⟩)) ⟨_, _, _, _, _, _, _, _, hs0_10, rfl⟩
    · clear hs0_5
      rintro s ⟨r6_0_1, r6_1_1, r6_2_1, r6_3_1, r6_4_1, r6_5_1, now7_0_1, now7_1_1, hj0, rfl⟩
      unfold Ref3.New.j0 at hj0
      obtain ⟨⟨o_0_2, o_1_2, t38⟩, ee_t38, hj1⟩ := bind_elim hj0; clear hj0
      conv => whnf
      refine Gate.weak (Sees.of (Weak.objs (keep := [2, 3, 0, 1]) (frz := []) (m := 0) (ts := [(0, .lit (.string text0)), (5, .vs 1 (t15.map (eS))), (6, .ptr 2 0), (7, .ptr 0 0), (8, .lit (.int .i64 goes8)), (9, .lit (.int .i64 i9)), (10, .lit (.string t28)), (37, .ptr 0 0)]) (hs := [.box [.lit (.string now7_0_1), .ref 1 0 ((now7_1_1.map (eI .i64)).length)], .arr 1 (now7_1_1.map (eI .i64)), .box [.ref 3 0 ((r6_0_1.map (api.Line.enc)).length), .lit (.int .i64 r6_1_1), .lit (.string r6_2_1), .lit (.int .i64 r6_3_1), .lit (.bool r6_4_1), .lit (.int .i64 r6_5_1)], .arr 3 (r6_0_1.map (api.Line.enc))]) rfl (by decide) rfl rfl ⟨⟨_, rfl, WO.boxs ⟨(.same (.lit (.string now7_0_1)) rfl), (.ref _ _ _ 1 rfl), trivial⟩⟩, ⟨⟨_, rfl, .arr _ _⟩, ⟨⟨_, rfl, WO.boxs ⟨(.ref _ _ _ 3 rfl), (.same (.lit (.int .i64 r6_1_1)) rfl), (.same (.lit (.string r6_2_1)) rfl), (.same (.lit (.int .i64 r6_3_1)) rfl), (.same (.lit (.bool r6_4_1)) rfl), (.same (.lit (.int .i64 r6_5_1)) rfl), trivial⟩⟩, ⟨⟨_, rfl, .arr _ _⟩, ⟨rfl, fun _ h => by cases h⟩⟩⟩⟩⟩ ⟨(.same (.lit (.string text0)) rfl), (.same (.vs 1 (t15.map (eS))) rfl), (.ptr _ _ 2 rfl), (.ptr _ _ 0 rfl), (.same (.lit (.int .i64 goes8)) rfl), (.same (.lit (.int .i64 i9)) rfl), (.same (.lit (.string t28)) rfl), (.ptr _ _ 0 rfl), trivial⟩)) ?_
      conv => whnf
      refine CallN.handF (k := 1) (m := 2) (v := .lit (.int .u8 t38)) (hs' := [.box [.lit (.string o_0_2), .ref 1 0 ((o_1_2.map (eI .i64)).length)], .arr 1 (o_1_2.map (eI .i64))]) (rest := [.box [.ref 3 0 ((r6_0_1.map (api.Line.enc)).length), .lit (.int .i64 r6_1_1), .lit (.string r6_2_1), .lit (.int .i64 r6_3_1), .lit (.bool r6_4_1), .lit (.int .i64 r6_5_1)], .arr 3 (r6_0_1.map (api.Line.enc))]) (hs2 := [.box [.lit (.string o_0_2), .ref 1 0 ((o_1_2.map (eI .i64)).length)], .arr 1 (o_1_2.map (eI .i64)), .box [.ref 3 0 ((r6_0_1.map (api.Line.enc)).length), .lit (.int .i64 r6_1_1), .lit (.string r6_2_1), .lit (.int .i64 r6_3_1), .lit (.bool r6_4_1), .lit (.int .i64 r6_5_1)], .arr 3 (r6_0_1.map (api.Line.enc))]) (ts' := [(0, .lit (.string text0)), (5, .vs 1 (t15.map (eS))), (6, .ptr 2 0), (7, .ptr 0 0), (8, .lit (.int .i64 goes8)), (9, .lit (.int .i64 i9)), (10, .lit (.string t28)), (37, .ptr 0 0)]) (Ref3.written.open__ok ee_t38) rfl rfl rfl rfl rfl rfl rfl rfl rfl ?_
      conv => whnf
      refine CutN.of (fun s => ∃ (r6_0_2 : List api.Line) (r6_1_2 : Int) (r6_2_2 : ByteArray) (r6_3_2 : Int) (r6_4_2 : Bool) (r6_5_2 : Int) (now7_0_2 : ByteArray) (now7_1_2 : List Int), Ref3.New.j1 text0 t15 goes8 i9 t28 t38 r6_0_2 r6_1_2 r6_2_2 r6_3_2 r6_4_2 r6_5_2 now7_0_2 now7_1_2 = some x1 ∧ s = (⟨131, [(0, .lit (.string text0)), (5, .vs 1 (t15.map (eS))), (6, .ptr 0 0), (7, .ptr 2 0), (8, .lit (.int .i64 goes8)), (9, .lit (.int .i64 i9)), (10, .lit (.string t28)), (11, .lit (.int .u8 t38))], [.box [.ref 1 0 ((r6_0_2.map (api.Line.enc)).length), .lit (.int .i64 r6_1_2), .lit (.string r6_2_2), .lit (.int .i64 r6_3_2), .lit (.bool r6_4_2), .lit (.int .i64 r6_5_2)], .arr 3 (r6_0_2.map (api.Line.enc)), .box [.lit (.string now7_0_2), .ref 3 0 ((now7_1_2.map (eI .i64)).length)], .arr 1 (now7_1_2.map (eI .i64))]⟩ : St)) ?_ ?_
      · obtain ⟨t40, et40, hj2⟩ := letk_elim hj1; clear hj1
        conv => whnf
        refine Nm.mk ⟨t40, et40, ?_⟩
        rcases t40 with _ | _
        · have hj3 := bif_f hj2
          clear hj2
          exact BackS.of (Sees.of (Weak.objs (keep := [2, 3, 0, 1]) (frz := []) (m := 0) (ts := [(0, .lit (.string text0)), (5, .vs 1 (t15.map (eS))), (6, .ptr 0 0), (7, .ptr 2 0), (8, .lit (.int .i64 goes8)), (9, .lit (.int .i64 i9)), (10, .lit (.string t28)), (11, .lit (.int .u8 t38))]) (hs := [.box [.ref 1 0 ((r6_0_1.map (api.Line.enc)).length), .lit (.int .i64 r6_1_1), .lit (.string r6_2_1), .lit (.int .i64 r6_3_1), .lit (.bool r6_4_1), .lit (.int .i64 r6_5_1)], .arr 3 (r6_0_1.map (api.Line.enc)), .box [.lit (.string o_0_2), .ref 3 0 ((o_1_2.map (eI .i64)).length)], .arr 1 (o_1_2.map (eI .i64))]) rfl (by decide) rfl rfl ⟨⟨_, rfl, WO.boxs ⟨(.ref _ _ _ 1 rfl), (.same (.lit (.int .i64 r6_1_1)) rfl), (.same (.lit (.string r6_2_1)) rfl), (.same (.lit (.int .i64 r6_3_1)) rfl), (.same (.lit (.bool r6_4_1)) rfl), (.same (.lit (.int .i64 r6_5_1)) rfl), trivial⟩⟩, ⟨⟨_, rfl, .arr _ _⟩, ⟨⟨_, rfl, WO.boxs ⟨(.same (.lit (.string o_0_2)) rfl), (.ref _ _ _ 3 rfl), trivial⟩⟩, ⟨⟨_, rfl, .arr _ _⟩, ⟨rfl, fun _ h => by cases h⟩⟩⟩⟩⟩ ⟨(.same (.lit (.string text0)) rfl), (.same (.vs 1 (t15.map (eS))) rfl), (.ptr _ _ 0 rfl), (.ptr _ _ 2 rfl), (.same (.lit (.int .i64 goes8)) rfl), (.same (.lit (.int .i64 i9)) rfl), (.same (.lit (.string t28)) rfl), (.same (.lit (.int .u8 t38)) rfl), trivial⟩)) ⟨_, _, _, _, _, _, _, _, hj3, rfl⟩
        · have hj3 := bif_t hj2
          clear hj2
          obtain ⟨t43, et43, hj4⟩ := bind_elim hj3; clear hj3
          conv => whnf
          refine Gate.go ?_
          conv => whnf
          refine CallN.by (v := .lit (.bool t43)) (Ref3.Comment_ok et43) rfl rfl ?_
          rcases t43 with _ | _
          · have hj5 := bif_f hj4
            clear hj4
            exact BackS.of (Sees.of (Weak.objs (keep := [2, 3, 0, 1]) (frz := []) (m := 0) (ts := [(0, .lit (.string text0)), (5, .vs 1 (t15.map (eS))), (6, .ptr 0 0), (7, .ptr 2 0), (8, .lit (.int .i64 goes8)), (9, .lit (.int .i64 i9)), (10, .lit (.string t28)), (11, .lit (.int .u8 t38))]) (hs := [.box [.ref 1 0 ((r6_0_1.map (api.Line.enc)).length), .lit (.int .i64 r6_1_1), .lit (.string r6_2_1), .lit (.int .i64 r6_3_1), .lit (.bool r6_4_1), .lit (.int .i64 r6_5_1)], .arr 3 (r6_0_1.map (api.Line.enc)), .box [.lit (.string o_0_2), .ref 3 0 ((o_1_2.map (eI .i64)).length)], .arr 1 (o_1_2.map (eI .i64))]) rfl (by decide) rfl rfl ⟨⟨_, rfl, WO.boxs ⟨(.ref _ _ _ 1 rfl), (.same (.lit (.int .i64 r6_1_1)) rfl), (.same (.lit (.string r6_2_1)) rfl), (.same (.lit (.int .i64 r6_3_1)) rfl), (.same (.lit (.bool r6_4_1)) rfl), (.same (.lit (.int .i64 r6_5_1)) rfl), trivial⟩⟩, ⟨⟨_, rfl, .arr _ _⟩, ⟨⟨_, rfl, WO.boxs ⟨(.same (.lit (.string o_0_2)) rfl), (.ref _ _ _ 3 rfl), trivial⟩⟩, ⟨⟨_, rfl, .arr _ _⟩, ⟨rfl, fun _ h => by cases h⟩⟩⟩⟩⟩ ⟨(.same (.lit (.string text0)) rfl), (.same (.vs 1 (t15.map (eS))) rfl), (.ptr _ _ 0 rfl), (.ptr _ _ 2 rfl), (.same (.lit (.int .i64 goes8)) rfl), (.same (.lit (.int .i64 i9)) rfl), (.same (.lit (.string t28)) rfl), (.same (.lit (.int .u8 t38)) rfl), trivial⟩)) ⟨_, _, _, _, _, _, _, _, hj5, rfl⟩
          · have hj5 := bif_t hj4
            clear hj4
            obtain ⟨t25_2, et25_2, hj6⟩ := letk_elim hj5; clear hj5
            conv => whnf
            refine Nm.mk ⟨t25_2, et25_2, ?_⟩
            exact BackS.of (Sees.of (Weak.objs (keep := [2, 3, 0, 1]) (frz := []) (m := 0) (ts := [(0, .lit (.string text0)), (5, .vs 1 (t15.map (eS))), (6, .ptr 0 0), (7, .ptr 2 0), (8, .lit (.int .i64 goes8)), (9, .lit (.int .i64 t25_2))]) (hs := [.box [.ref 1 0 ((r6_0_1.map (api.Line.enc)).length), .lit (.int .i64 r6_1_1), .lit (.string r6_2_1), .lit (.int .i64 r6_3_1), .lit (.bool r6_4_1), .lit (.int .i64 r6_5_1)], .arr 3 (r6_0_1.map (api.Line.enc)), .box [.lit (.string o_0_2), .ref 3 0 ((o_1_2.map (eI .i64)).length)], .arr 1 (o_1_2.map (eI .i64))]) rfl (by decide) rfl rfl ⟨⟨_, rfl, WO.boxs ⟨(.ref _ _ _ 1 rfl), (.same (.lit (.int .i64 r6_1_1)) rfl), (.same (.lit (.string r6_2_1)) rfl), (.same (.lit (.int .i64 r6_3_1)) rfl), (.same (.lit (.bool r6_4_1)) rfl), (.same (.lit (.int .i64 r6_5_1)) rfl), trivial⟩⟩, ⟨⟨_, rfl, .arr _ _⟩, ⟨⟨_, rfl, WO.boxs ⟨(.same (.lit (.string o_0_2)) rfl), (.ref _ _ _ 3 rfl), trivial⟩⟩, ⟨⟨_, rfl, .arr _ _⟩, ⟨rfl, fun _ h => by cases h⟩⟩⟩⟩⟩ ⟨(.same (.lit (.string text0)) rfl), (.same (.vs 1 (t15.map (eS))) rfl), (.ptr _ _ 0 rfl), (.ptr _ _ 2 rfl), (.same (.lit (.int .i64 goes8)) rfl), (.same (.lit (.int .i64 t25_2)) rfl), trivial⟩)) ⟨_, hl1 _ (Option.some.inj hj6).symm, rfl⟩
      · clear hj1
        rintro s ⟨r6_0_2, r6_1_2, r6_2_2, r6_3_2, r6_4_2, r6_5_2, now7_0_2, now7_1_2, hj0, rfl⟩
        unfold Ref3.New.j1 at hj0
        conv => whnf
        refine CutN.of (fun s => ∃ (r6_0_3 : List api.Line) (r6_1_3 : Int) (r6_2_3 : ByteArray) (r6_3_3 : Int) (r6_4_3 : Bool) (r6_5_3 : Int) (now7_0_3 : ByteArray) (now7_1_3 : List Int) (s10 : ByteArray), Ref3.New.j2 text0 t15 i9 t38 r6_0_3 r6_1_3 r6_2_3 r6_3_3 r6_4_3 r6_5_3 now7_0_3 now7_1_3 s10 = some x1 ∧ s = (⟨131, [(0, .lit (.string text0)), (5, .vs 1 (t15.map (eS))), (6, .ptr 0 0), (7, .ptr 2 0), (9, .lit (.int .i64 i9)), (10, .lit (.string s10)), (11, .lit (.int .u8 t38))], [.box [.ref 1 0 ((r6_0_3.map (api.Line.enc)).length), .lit (.int .i64 r6_1_3), .lit (.string r6_2_3), .lit (.int .i64 r6_3_3), .lit (.bool r6_4_3), .lit (.int .i64 r6_5_3)], .arr 3 (r6_0_3.map (api.Line.enc)), .box [.lit (.string now7_0_3), .ref 3 0 ((now7_1_3.map (eI .i64)).length)], .arr 1 (now7_1_3.map (eI .i64))]⟩ : St)) ?_ ?_
        · obtain ⟨t46, et46, hj1⟩ := letk_elim hj0; clear hj0
          conv => whnf
          refine Nm.mk ⟨t46, et46, ?_⟩
          rcases t46 with _ | _
          · have hj2 := bif_f hj1
            clear hj1
            exact BackS.of (Sees.of (Weak.objs (keep := [0, 1, 2, 3]) (frz := []) (m := 0) (ts := [(0, .lit (.string text0)), (5, .vs 1 (t15.map (eS))), (6, .ptr 0 0), (7, .ptr 2 0), (9, .lit (.int .i64 i9)), (10, .lit (.string t28)), (11, .lit (.int .u8 t38))]) (hs := [.box [.ref 1 0 ((r6_0_2.map (api.Line.enc)).length), .lit (.int .i64 r6_1_2), .lit (.string r6_2_2), .lit (.int .i64 r6_3_2), .lit (.bool r6_4_2), .lit (.int .i64 r6_5_2)], .arr 3 (r6_0_2.map (api.Line.enc)), .box [.lit (.string now7_0_2), .ref 3 0 ((now7_1_2.map (eI .i64)).length)], .arr 1 (now7_1_2.map (eI .i64))]) rfl (by decide) rfl rfl ⟨⟨_, rfl, WO.boxs ⟨(.ref _ _ _ 1 rfl), (.same (.lit (.int .i64 r6_1_2)) rfl), (.same (.lit (.string r6_2_2)) rfl), (.same (.lit (.int .i64 r6_3_2)) rfl), (.same (.lit (.bool r6_4_2)) rfl), (.same (.lit (.int .i64 r6_5_2)) rfl), trivial⟩⟩, ⟨⟨_, rfl, .arr _ _⟩, ⟨⟨_, rfl, WO.boxs ⟨(.same (.lit (.string now7_0_2)) rfl), (.ref _ _ _ 3 rfl), trivial⟩⟩, ⟨⟨_, rfl, .arr _ _⟩, ⟨rfl, fun _ h => by cases h⟩⟩⟩⟩⟩ ⟨(.same (.lit (.string text0)) rfl), (.same (.vs 1 (t15.map (eS))) rfl), (.ptr _ _ 0 rfl), (.ptr _ _ 2 rfl), (.same (.lit (.int .i64 i9)) rfl), (.same (.lit (.string t28)) rfl), (.same (.lit (.int .u8 t38)) rfl), trivial⟩)) ⟨_, _, _, _, _, _, _, _, _, hj2, rfl⟩
          · have hj2 := bif_t hj1
            clear hj1
            conv => whnf
            refine CutN.of (fun s => ∃ (r6_0_7 : List api.Line) (r6_1_7 : Int) (r6_2_7 : ByteArray) (r6_3_7 : Int) (r6_4_7 : Bool) (r6_5_7 : Int) (now7_0_7 : ByteArray) (now7_1_7 : List Int) (s10_3 : ByteArray), Ref3.New.j6 text0 t15 i9 t38 r6_0_7 r6_1_7 r6_2_7 r6_3_7 r6_4_7 r6_5_7 now7_0_7 now7_1_7 s10_3 = some x1 ∧ s = (⟨131, [(0, .lit (.string text0)), (5, .vs 1 (t15.map (eS))), (6, .ptr 0 0), (7, .ptr 2 0), (9, .lit (.int .i64 i9)), (10, .lit (.string s10_3)), (11, .lit (.int .u8 t38))], [.box [.ref 1 0 ((r6_0_7.map (api.Line.enc)).length), .lit (.int .i64 r6_1_7), .lit (.string r6_2_7), .lit (.int .i64 r6_3_7), .lit (.bool r6_4_7), .lit (.int .i64 r6_5_7)], .arr 3 (r6_0_7.map (api.Line.enc)), .box [.lit (.string now7_0_7), .ref 3 0 ((now7_1_7.map (eI .i64)).length)], .arr 1 (now7_1_7.map (eI .i64))]⟩ : St)) ?_ ?_
            · conv => whnf
              unfold Ref3.New.l1 at hj2
              refine LoopB.of (σ := (List api.Line) × Int × ByteArray × Int × Bool × Int × ByteArray × (List Int) × ByteArray) (ρ := ((List api.Line) × Int × ByteArray × Int × Bool × Int × ByteArray × (List Int) × Int × Int) ⊕ ((List api.Line) × Int × Int)) (fun v : (List api.Line) × Int × ByteArray × Int × Bool × Int × ByteArray × (List Int) × ByteArray => Ref3.New.s1 text0 t15 i9 t38 v.1 v.2.1 v.2.2.1 v.2.2.2.1 v.2.2.2.2.1 v.2.2.2.2.2.1 v.2.2.2.2.2.2.1 v.2.2.2.2.2.2.2.1 v.2.2.2.2.2.2.2.2) (fun v => (⟨131, [(0, .lit (.string text0)), (5, .vs 1 (t15.map (eS))), (6, .ptr 0 0), (7, .ptr 2 0), (9, .lit (.int .i64 i9)), (10, .lit (.string v.2.2.2.2.2.2.2.2)), (11, .lit (.int .u8 t38))], [.box [.ref 1 0 ((v.1.map (api.Line.enc)).length), .lit (.int .i64 v.2.1), .lit (.string v.2.2.1), .lit (.int .i64 v.2.2.2.1), .lit (.bool v.2.2.2.2.1), .lit (.int .i64 v.2.2.2.2.2.1)], .arr 3 (v.1.map (api.Line.enc)), .box [.lit (.string v.2.2.2.2.2.2.1), .ref 3 0 ((v.2.2.2.2.2.2.2.1.map (eI .i64)).length)], .arr 1 (v.2.2.2.2.2.2.2.1.map (eI .i64))]⟩ : St)) (r6_0_2, r6_1_2, r6_2_2, r6_3_2, r6_4_2, r6_5_2, now7_0_2, now7_1_2, t28) hj2 (BackS.of (Sees.of (Weak.objs (keep := [0, 1, 2, 3]) (frz := []) (m := 0) (ts := [(0, .lit (.string text0)), (5, .vs 1 (t15.map (eS))), (6, .ptr 0 0), (7, .ptr 2 0), (9, .lit (.int .i64 i9)), (10, .lit (.string t28)), (11, .lit (.int .u8 t38))]) (hs := [.box [.ref 1 0 ((r6_0_2.map (api.Line.enc)).length), .lit (.int .i64 r6_1_2), .lit (.string r6_2_2), .lit (.int .i64 r6_3_2), .lit (.bool r6_4_2), .lit (.int .i64 r6_5_2)], .arr 3 (r6_0_2.map (api.Line.enc)), .box [.lit (.string now7_0_2), .ref 3 0 ((now7_1_2.map (eI .i64)).length)], .arr 1 (now7_1_2.map (eI .i64))]) rfl (by decide) rfl rfl ⟨⟨_, rfl, WO.boxs ⟨(.ref _ _ _ 1 rfl), (.same (.lit (.int .i64 r6_1_2)) rfl), (.same (.lit (.string r6_2_2)) rfl), (.same (.lit (.int .i64 r6_3_2)) rfl), (.same (.lit (.bool r6_4_2)) rfl), (.same (.lit (.int .i64 r6_5_2)) rfl), trivial⟩⟩, ⟨⟨_, rfl, .arr _ _⟩, ⟨⟨_, rfl, WO.boxs ⟨(.same (.lit (.string now7_0_2)) rfl), (.ref _ _ _ 3 rfl), trivial⟩⟩, ⟨⟨_, rfl, .arr _ _⟩, ⟨rfl, fun _ h => by cases h⟩⟩⟩⟩⟩ ⟨(.same (.lit (.string text0)) rfl), (.same (.vs 1 (t15.map (eS))) rfl), (.ptr _ _ 0 rfl), (.ptr _ _ 2 rfl), (.same (.lit (.int .i64 i9)) rfl), (.same (.lit (.string t28)) rfl), (.same (.lit (.int .u8 t38)) rfl), trivial⟩)) rfl) ?_
              clear hj2
              rintro K2 ⟨r6_0_8, r6_1_8, r6_2_8, r6_3_8, r6_4_9, r6_5_8, now7_0_8, now7_1_8, s10_4⟩ x2 hs1_0 hl2 hr2
              replace hs1_0 : Ref3.New.s1 text0 t15 i9 t38 r6_0_8 r6_1_8 r6_2_8 r6_3_8 r6_4_9 r6_5_8 now7_0_8 now7_1_8 s10_4 = some x2 := hs1_0
              unfold Ref3.New.s1 at hs1_0
              change bwp _ _ _ _ _ (⟨131, [(0, .lit (.string text0)), (5, .vs 1 (t15.map (eS))), (6, .ptr 0 0), (7, .ptr 2 0), (9, .lit (.int .i64 i9)), (10, .lit (.string s10_4)), (11, .lit (.int .u8 t38))], [.box [.ref 1 0 ((r6_0_8.map (api.Line.enc)).length), .lit (.int .i64 r6_1_8), .lit (.string r6_2_8), .lit (.int .i64 r6_3_8), .lit (.bool r6_4_9), .lit (.int .i64 r6_5_8)], .arr 3 (r6_0_8.map (api.Line.enc)), .box [.lit (.string now7_0_8), .ref 3 0 ((now7_1_8.map (eI .i64)).length)], .arr 1 (now7_1_8.map (eI .i64))]⟩ : St)
              obtain ⟨t48, et48, hs1_1⟩ := letk_elim hs1_0; clear hs1_0
              conv => whnf
              refine Nm.mk ⟨t48, et48, ?_⟩
              obtain ⟨t49, et49, hs1_2⟩ := letk_elim hs1_1; clear hs1_1
              conv => whnf
              refine Nm.mk ⟨t49, et49, ?_⟩
              rcases t49 with _ | _
              · have hs1_3 := bif_f hs1_2
                clear hs1_2
                obtain ⟨yhs1_3_0, hs1_3u, ehs1_3_0⟩ := map_elim hs1_3
                have ehs1_3_0 := (hr2 _ ehs1_3_0.symm).symm
                subst ehs1_3_0
                exact BackS.of (Sees.of (Weak.objs (keep := [0, 1, 2, 3]) (frz := []) (m := 0) (ts := [(0, .lit (.string text0)), (5, .vs 1 (t15.map (eS))), (6, .ptr 0 0), (7, .ptr 2 0), (9, .lit (.int .i64 i9)), (10, .lit (.string s10_4)), (11, .lit (.int .u8 t38))]) (hs := [.box [.ref 1 0 ((r6_0_8.map (api.Line.enc)).length), .lit (.int .i64 r6_1_8), .lit (.string r6_2_8), .lit (.int .i64 r6_3_8), .lit (.bool r6_4_9), .lit (.int .i64 r6_5_8)], .arr 3 (r6_0_8.map (api.Line.enc)), .box [.lit (.string now7_0_8), .ref 3 0 ((now7_1_8.map (eI .i64)).length)], .arr 1 (now7_1_8.map (eI .i64))]) rfl (by decide) rfl rfl ⟨⟨_, rfl, WO.boxs ⟨(.ref _ _ _ 1 rfl), (.same (.lit (.int .i64 r6_1_8)) rfl), (.same (.lit (.string r6_2_8)) rfl), (.same (.lit (.int .i64 r6_3_8)) rfl), (.same (.lit (.bool r6_4_9)) rfl), (.same (.lit (.int .i64 r6_5_8)) rfl), trivial⟩⟩, ⟨⟨_, rfl, .arr _ _⟩, ⟨⟨_, rfl, WO.boxs ⟨(.same (.lit (.string now7_0_8)) rfl), (.ref _ _ _ 3 rfl), trivial⟩⟩, ⟨⟨_, rfl, .arr _ _⟩, ⟨rfl, fun _ h => by cases h⟩⟩⟩⟩⟩ ⟨(.same (.lit (.string text0)) rfl), (.same (.vs 1 (t15.map (eS))) rfl), (.ptr _ _ 0 rfl), (.ptr _ _ 2 rfl), (.same (.lit (.int .i64 i9)) rfl), (.same (.lit (.string s10_4)) rfl), (.same (.lit (.int .u8 t38)) rfl), trivial⟩)) ⟨_, _, _, _, _, _, _, _, _, hs1_3u, rfl⟩
              · have hs1_3 := bif_t hs1_2
                clear hs1_2
                obtain ⟨chs1_4, hs1_4⟩ := chk_elim hs1_3; clear hs1_3
                obtain ⟨t52, et52, hs1_5⟩ := letk_elim hs1_4; clear hs1_4
                conv => whnf
                refine Side.mk chs1_4 ?_
                conv => whnf
                refine Nm.mk ⟨t52, et52, ?_⟩
                obtain ⟨t53, et53, hs1_6⟩ := letk_elim hs1_5; clear hs1_5
                conv => whnf
                refine Nm.mk ⟨t53, et53, ?_⟩
                rcases t53 with _ | _
                · have hs1_7 := bif_f hs1_6
                  clear hs1_6
                  obtain ⟨yhs1_7_0, hs1_7u, ehs1_7_0⟩ := map_elim hs1_7
                  have ehs1_7_0 := (hr2 _ ehs1_7_0.symm).symm
                  subst ehs1_7_0
                  exact BackS.of (Sees.of (Weak.objs (keep := [0, 1, 2, 3]) (frz := []) (m := 0) (ts := [(0, .lit (.string text0)), (5, .vs 1 (t15.map (eS))), (6, .ptr 0 0), (7, .ptr 2 0), (9, .lit (.int .i64 i9)), (10, .lit (.string s10_4)), (11, .lit (.int .u8 t38))]) (hs := [.box [.ref 1 0 ((r6_0_8.map (api.Line.enc)).length), .lit (.int .i64 r6_1_8), .lit (.string r6_2_8), .lit (.int .i64 r6_3_8), .lit (.bool r6_4_9), .lit (.int .i64 r6_5_8)], .arr 3 (r6_0_8.map (api.Line.enc)), .box [.lit (.string now7_0_8), .ref 3 0 ((now7_1_8.map (eI .i64)).length)], .arr 1 (now7_1_8.map (eI .i64))]) rfl (by decide) rfl rfl ⟨⟨_, rfl, WO.boxs ⟨(.ref _ _ _ 1 rfl), (.same (.lit (.int .i64 r6_1_8)) rfl), (.same (.lit (.string r6_2_8)) rfl), (.same (.lit (.int .i64 r6_3_8)) rfl), (.same (.lit (.bool r6_4_9)) rfl), (.same (.lit (.int .i64 r6_5_8)) rfl), trivial⟩⟩, ⟨⟨_, rfl, .arr _ _⟩, ⟨⟨_, rfl, WO.boxs ⟨(.same (.lit (.string now7_0_8)) rfl), (.ref _ _ _ 3 rfl), trivial⟩⟩, ⟨⟨_, rfl, .arr _ _⟩, ⟨rfl, fun _ h => by cases h⟩⟩⟩⟩⟩ ⟨(.same (.lit (.string text0)) rfl), (.same (.vs 1 (t15.map (eS))) rfl), (.ptr _ _ 0 rfl), (.ptr _ _ 2 rfl), (.same (.lit (.int .i64 i9)) rfl), (.same (.lit (.string s10_4)) rfl), (.same (.lit (.int .u8 t38)) rfl), trivial⟩)) ⟨_, _, _, _, _, _, _, _, _, hs1_7u, rfl⟩
                · have hs1_7 := bif_t hs1_6
                  clear hs1_6
                  obtain ⟨chs1_8, hs1_8⟩ := chk_elim hs1_7; clear hs1_7
                  obtain ⟨t56, et56, hs1_9⟩ := letk_elim hs1_8; clear hs1_8
                  conv => whnf
                  refine Side.mk chs1_8 ?_
                  conv => whnf
                  refine Nm.mk ⟨t56, et56, ?_⟩
                  exact BackS.of (Sees.of (Weak.objs (keep := [0, 1, 2, 3]) (frz := []) (m := 0) (ts := [(0, .lit (.string text0)), (5, .vs 1 (t15.map (eS))), (6, .ptr 0 0), (7, .ptr 2 0), (9, .lit (.int .i64 i9)), (10, .lit (.string t56)), (11, .lit (.int .u8 t38))]) (hs := [.box [.ref 1 0 ((r6_0_8.map (api.Line.enc)).length), .lit (.int .i64 r6_1_8), .lit (.string r6_2_8), .lit (.int .i64 r6_3_8), .lit (.bool r6_4_9), .lit (.int .i64 r6_5_8)], .arr 3 (r6_0_8.map (api.Line.enc)), .box [.lit (.string now7_0_8), .ref 3 0 ((now7_1_8.map (eI .i64)).length)], .arr 1 (now7_1_8.map (eI .i64))]) rfl (by decide) rfl rfl ⟨⟨_, rfl, WO.boxs ⟨(.ref _ _ _ 1 rfl), (.same (.lit (.int .i64 r6_1_8)) rfl), (.same (.lit (.string r6_2_8)) rfl), (.same (.lit (.int .i64 r6_3_8)) rfl), (.same (.lit (.bool r6_4_9)) rfl), (.same (.lit (.int .i64 r6_5_8)) rfl), trivial⟩⟩, ⟨⟨_, rfl, .arr _ _⟩, ⟨⟨_, rfl, WO.boxs ⟨(.same (.lit (.string now7_0_8)) rfl), (.ref _ _ _ 3 rfl), trivial⟩⟩, ⟨⟨_, rfl, .arr _ _⟩, ⟨rfl, fun _ h => by cases h⟩⟩⟩⟩⟩ ⟨(.same (.lit (.string text0)) rfl), (.same (.vs 1 (t15.map (eS))) rfl), (.ptr _ _ 0 rfl), (.ptr _ _ 2 rfl), (.same (.lit (.int .i64 i9)) rfl), (.same (.lit (.string t56)) rfl), (.same (.lit (.int .u8 t38)) rfl), trivial⟩)) ⟨_, hl2 _ (Option.some.inj hs1_9).symm, rfl⟩
            · clear hj2
              rintro s ⟨r6_0_7, r6_1_7, r6_2_7, r6_3_7, r6_4_7, r6_5_7, now7_0_7, now7_1_7, s10_3, hj0, rfl⟩
              unfold Ref3.New.j6 at hj0
              conv => whnf
              refine CutN.of (fun s => ∃ (r6_4_8 : Bool) (t61 : Bool), Ref3.New.j7 text0 t15 i9 t38 r6_0_7 r6_1_7 r6_2_7 r6_3_7 r6_5_7 now7_0_7 now7_1_7 s10_3 r6_4_8 t61 = some x1 ∧ s = (⟨131, [(0, .lit (.string text0)), (5, .vs 1 (t15.map (eS))), (6, .ptr 0 0), (7, .ptr 2 0), (9, .lit (.int .i64 i9)), (10, .lit (.string s10_3)), (11, .lit (.int .u8 t38)), (61, .lit (.bool t61))], [.box [.ref 1 0 ((r6_0_7.map (api.Line.enc)).length), .lit (.int .i64 r6_1_7), .lit (.string r6_2_7), .lit (.int .i64 r6_3_7), .lit (.bool r6_4_8), .lit (.int .i64 r6_5_7)], .arr 3 (r6_0_7.map (api.Line.enc)), .box [.lit (.string now7_0_7), .ref 3 0 ((now7_1_7.map (eI .i64)).length)], .arr 1 (now7_1_7.map (eI .i64))]⟩ : St)) ?_ ?_
              · obtain ⟨t63, et63, hj1⟩ := letk_elim hj0; clear hj0
                conv => whnf
                refine Nm.mk ⟨t63, et63, ?_⟩
                rcases t63 with _ | _
                · have hj2 := bif_f hj1
                  clear hj1
                  exact BackS.of (Sees.of (Weak.objs (keep := [0, 1, 2, 3]) (frz := []) (m := 0) (ts := [(0, .lit (.string text0)), (5, .vs 1 (t15.map (eS))), (6, .ptr 0 0), (7, .ptr 2 0), (9, .lit (.int .i64 i9)), (10, .lit (.string s10_3)), (11, .lit (.int .u8 t38)), (61, .lit (.bool false))]) (hs := [.box [.ref 1 0 ((r6_0_7.map (api.Line.enc)).length), .lit (.int .i64 r6_1_7), .lit (.string r6_2_7), .lit (.int .i64 r6_3_7), .lit (.bool r6_4_7), .lit (.int .i64 r6_5_7)], .arr 3 (r6_0_7.map (api.Line.enc)), .box [.lit (.string now7_0_7), .ref 3 0 ((now7_1_7.map (eI .i64)).length)], .arr 1 (now7_1_7.map (eI .i64))]) rfl (by decide) rfl rfl ⟨⟨_, rfl, WO.boxs ⟨(.ref _ _ _ 1 rfl), (.same (.lit (.int .i64 r6_1_7)) rfl), (.same (.lit (.string r6_2_7)) rfl), (.same (.lit (.int .i64 r6_3_7)) rfl), (.same (.lit (.bool r6_4_7)) rfl), (.same (.lit (.int .i64 r6_5_7)) rfl), trivial⟩⟩, ⟨⟨_, rfl, .arr _ _⟩, ⟨⟨_, rfl, WO.boxs ⟨(.same (.lit (.string now7_0_7)) rfl), (.ref _ _ _ 3 rfl), trivial⟩⟩, ⟨⟨_, rfl, .arr _ _⟩, ⟨rfl, fun _ h => by cases h⟩⟩⟩⟩⟩ ⟨(.same (.lit (.string text0)) rfl), (.same (.vs 1 (t15.map (eS))) rfl), (.ptr _ _ 0 rfl), (.ptr _ _ 2 rfl), (.same (.lit (.int .i64 i9)) rfl), (.same (.lit (.string s10_3)) rfl), (.same (.lit (.int .u8 t38)) rfl), (.same (.lit (.bool false)) rfl), trivial⟩)) ⟨_, _, hj2, rfl⟩
                · have hj2 := bif_t hj1
                  clear hj1
                  obtain ⟨chj3, hj3⟩ := chk_elim hj2; clear hj2
                  obtain ⟨t66, et66, hj4⟩ := letk_elim hj3; clear hj3
                  conv => whnf
                  refine Side.mk chj3 ?_
                  conv => whnf
                  refine Nm.mk ⟨t66, et66, ?_⟩
                  obtain ⟨t67, et67, hj5⟩ := letk_elim hj4; clear hj4
                  conv => whnf
                  refine Nm.mk ⟨t67, et67, ?_⟩
                  exact BackS.of (Sees.of (Weak.objs (keep := [0, 1, 2, 3]) (frz := []) (m := 0) (ts := [(0, .lit (.string text0)), (5, .vs 1 (t15.map (eS))), (6, .ptr 0 0), (7, .ptr 2 0), (9, .lit (.int .i64 i9)), (10, .lit (.string s10_3)), (11, .lit (.int .u8 t38)), (61, .lit (.bool t67))]) (hs := [.box [.ref 1 0 ((r6_0_7.map (api.Line.enc)).length), .lit (.int .i64 r6_1_7), .lit (.string r6_2_7), .lit (.int .i64 r6_3_7), .lit (.bool r6_4_7), .lit (.int .i64 r6_5_7)], .arr 3 (r6_0_7.map (api.Line.enc)), .box [.lit (.string now7_0_7), .ref 3 0 ((now7_1_7.map (eI .i64)).length)], .arr 1 (now7_1_7.map (eI .i64))]) rfl (by decide) rfl rfl ⟨⟨_, rfl, WO.boxs ⟨(.ref _ _ _ 1 rfl), (.same (.lit (.int .i64 r6_1_7)) rfl), (.same (.lit (.string r6_2_7)) rfl), (.same (.lit (.int .i64 r6_3_7)) rfl), (.same (.lit (.bool r6_4_7)) rfl), (.same (.lit (.int .i64 r6_5_7)) rfl), trivial⟩⟩, ⟨⟨_, rfl, .arr _ _⟩, ⟨⟨_, rfl, WO.boxs ⟨(.same (.lit (.string now7_0_7)) rfl), (.ref _ _ _ 3 rfl), trivial⟩⟩, ⟨⟨_, rfl, .arr _ _⟩, ⟨rfl, fun _ h => by cases h⟩⟩⟩⟩⟩ ⟨(.same (.lit (.string text0)) rfl), (.same (.vs 1 (t15.map (eS))) rfl), (.ptr _ _ 0 rfl), (.ptr _ _ 2 rfl), (.same (.lit (.int .i64 i9)) rfl), (.same (.lit (.string s10_3)) rfl), (.same (.lit (.int .u8 t38)) rfl), (.same (.lit (.bool t67)) rfl), trivial⟩)) ⟨_, _, hj5, rfl⟩
              · clear hj0
                rintro s ⟨r6_4_8, t61, hj0, rfl⟩
                unfold Ref3.New.j7 at hj0
                rcases t61 with _ | _
                · have hj1 := bif_f hj0
                  clear hj0
                  obtain ⟨t73, et73, hj2⟩ := letk_elim hj1; clear hj1
                  conv => whnf
                  refine Nm.mk ⟨t73, et73, ?_⟩
                  rcases t73 with _ | _
                  · have hj3 := bif_f hj2
                    clear hj2
                    obtain ⟨t59, et59, hj4⟩ := letk_elim hj3; clear hj3
                    conv => whnf
                    refine Nm.mk ⟨t59, et59, ?_⟩
                    obtain ⟨⟨o_0_5, o_1_5⟩, ee_t60, hj5⟩ := bind_elim hj4; clear hj4
                    conv => whnf
                    refine Gate.weak (Sees.of (Weak.objs (keep := [2, 3, 0, 1]) (frz := []) (m := 0) (ts := [(0, .lit (.string text0)), (5, .vs 1 (t15.map (eS))), (6, .ptr 2 0), (7, .ptr 0 0), (9, .lit (.int .i64 i9)), (10, .lit (.string s10_3)), (11, .lit (.int .u8 t38)), (57, .ptr 0 0), (59, .lit (.int .i64 t59))]) (hs := [.box [.lit (.string now7_0_7), .ref 1 0 ((now7_1_7.map (eI .i64)).length)], .arr 1 (now7_1_7.map (eI .i64)), .box [.ref 3 0 ((r6_0_7.map (api.Line.enc)).length), .lit (.int .i64 r6_1_7), .lit (.string r6_2_7), .lit (.int .i64 r6_3_7), .lit (.bool r6_4_8), .lit (.int .i64 r6_5_7)], .arr 3 (r6_0_7.map (api.Line.enc))]) rfl (by decide) rfl rfl ⟨⟨_, rfl, WO.boxs ⟨(.same (.lit (.string now7_0_7)) rfl), (.ref _ _ _ 1 rfl), trivial⟩⟩, ⟨⟨_, rfl, .arr _ _⟩, ⟨⟨_, rfl, WO.boxs ⟨(.ref _ _ _ 3 rfl), (.same (.lit (.int .i64 r6_1_7)) rfl), (.same (.lit (.string r6_2_7)) rfl), (.same (.lit (.int .i64 r6_3_7)) rfl), (.same (.lit (.bool r6_4_8)) rfl), (.same (.lit (.int .i64 r6_5_7)) rfl), trivial⟩⟩, ⟨⟨_, rfl, .arr _ _⟩, ⟨rfl, fun _ h => by cases h⟩⟩⟩⟩⟩ ⟨(.same (.lit (.string text0)) rfl), (.same (.vs 1 (t15.map (eS))) rfl), (.ptr _ _ 2 rfl), (.ptr _ _ 0 rfl), (.same (.lit (.int .i64 i9)) rfl), (.same (.lit (.string s10_3)) rfl), (.same (.lit (.int .u8 t38)) rfl), (.ptr _ _ 0 rfl), (.same (.lit (.int .i64 t59)) rfl), trivial⟩)) ?_
                    conv => whnf
                    refine CallN.handF (k := 1) (m := 2) (v := .tup []) (hs' := [.box [.lit (.string o_0_5), .ref 1 0 ((o_1_5.map (eI .i64)).length)], .arr 1 (o_1_5.map (eI .i64))]) (rest := [.box [.ref 3 0 ((r6_0_7.map (api.Line.enc)).length), .lit (.int .i64 r6_1_7), .lit (.string r6_2_7), .lit (.int .i64 r6_3_7), .lit (.bool r6_4_8), .lit (.int .i64 r6_5_7)], .arr 3 (r6_0_7.map (api.Line.enc))]) (hs2 := [.box [.lit (.string o_0_5), .ref 1 0 ((o_1_5.map (eI .i64)).length)], .arr 1 (o_1_5.map (eI .i64)), .box [.ref 3 0 ((r6_0_7.map (api.Line.enc)).length), .lit (.int .i64 r6_1_7), .lit (.string r6_2_7), .lit (.int .i64 r6_3_7), .lit (.bool r6_4_8), .lit (.int .i64 r6_5_7)], .arr 3 (r6_0_7.map (api.Line.enc))]) (ts' := [(0, .lit (.string text0)), (5, .vs 1 (t15.map (eS))), (6, .ptr 2 0), (7, .ptr 0 0), (9, .lit (.int .i64 i9)), (10, .lit (.string s10_3)), (11, .lit (.int .u8 t38)), (57, .ptr 0 0), (59, .lit (.int .i64 t59))]) (Ref3.written.add_ok ee_t60) rfl rfl rfl rfl rfl rfl rfl rfl rfl ?_
                    exact BackS.of (Sees.of (Weak.objs (keep := [2, 3, 0, 1]) (frz := []) (m := 0) (ts := [(0, .lit (.string text0)), (5, .vs 1 (t15.map (eS))), (6, .ptr 0 0), (7, .ptr 2 0), (9, .lit (.int .i64 i9)), (10, .lit (.string s10_3)), (11, .lit (.int .u8 t38))]) (hs := [.box [.ref 1 0 ((r6_0_7.map (api.Line.enc)).length), .lit (.int .i64 r6_1_7), .lit (.string r6_2_7), .lit (.int .i64 r6_3_7), .lit (.bool r6_4_8), .lit (.int .i64 r6_5_7)], .arr 3 (r6_0_7.map (api.Line.enc)), .box [.lit (.string o_0_5), .ref 3 0 ((o_1_5.map (eI .i64)).length)], .arr 1 (o_1_5.map (eI .i64))]) rfl (by decide) rfl rfl ⟨⟨_, rfl, WO.boxs ⟨(.ref _ _ _ 1 rfl), (.same (.lit (.int .i64 r6_1_7)) rfl), (.same (.lit (.string r6_2_7)) rfl), (.same (.lit (.int .i64 r6_3_7)) rfl), (.same (.lit (.bool r6_4_8)) rfl), (.same (.lit (.int .i64 r6_5_7)) rfl), trivial⟩⟩, ⟨⟨_, rfl, .arr _ _⟩, ⟨⟨_, rfl, WO.boxs ⟨(.same (.lit (.string o_0_5)) rfl), (.ref _ _ _ 3 rfl), trivial⟩⟩, ⟨⟨_, rfl, .arr _ _⟩, ⟨rfl, fun _ h => by cases h⟩⟩⟩⟩⟩ ⟨(.same (.lit (.string text0)) rfl), (.same (.vs 1 (t15.map (eS))) rfl), (.ptr _ _ 0 rfl), (.ptr _ _ 2 rfl), (.same (.lit (.int .i64 i9)) rfl), (.same (.lit (.string s10_3)) rfl), (.same (.lit (.int .u8 t38)) rfl), trivial⟩)) ⟨_, _, _, _, _, _, _, _, _, hj5, rfl⟩
                  · have hj3 := bif_t hj2
                    clear hj2
                    obtain ⟨t76, et76, hj4⟩ := letk_elim hj3; clear hj3
                    conv => whnf
                    refine Nm.mk ⟨t76, et76, ?_⟩
                    obtain ⟨⟨o_0_6, o_1_6, o_2_3, o_3_3, o_4_3, o_5_3⟩, ee_t77, hj5⟩ := bind_elim hj4; clear hj4
                    conv => whnf
                    refine Gate.weak (Sees.of (Weak.objs (keep := [0, 1, 2, 3]) (frz := []) (m := 0) (ts := [(0, .lit (.string text0)), (5, .vs 1 (t15.map (eS))), (6, .ptr 0 0), (7, .ptr 2 0), (9, .lit (.int .i64 i9)), (10, .lit (.string s10_3)), (11, .lit (.int .u8 t38)), (74, .ptr 0 0), (76, .lit (.int .i64 t76))]) (hs := [.box [.ref 1 0 ((r6_0_7.map (api.Line.enc)).length), .lit (.int .i64 r6_1_7), .lit (.string r6_2_7), .lit (.int .i64 r6_3_7), .lit (.bool r6_4_8), .lit (.int .i64 r6_5_7)], .arr 3 (r6_0_7.map (api.Line.enc)), .box [.lit (.string now7_0_7), .ref 3 0 ((now7_1_7.map (eI .i64)).length)], .arr 1 (now7_1_7.map (eI .i64))]) rfl (by decide) rfl rfl ⟨⟨_, rfl, WO.boxs ⟨(.ref _ _ _ 1 rfl), (.same (.lit (.int .i64 r6_1_7)) rfl), (.same (.lit (.string r6_2_7)) rfl), (.same (.lit (.int .i64 r6_3_7)) rfl), (.same (.lit (.bool r6_4_8)) rfl), (.same (.lit (.int .i64 r6_5_7)) rfl), trivial⟩⟩, ⟨⟨_, rfl, .arr _ _⟩, ⟨⟨_, rfl, WO.boxs ⟨(.same (.lit (.string now7_0_7)) rfl), (.ref _ _ _ 3 rfl), trivial⟩⟩, ⟨⟨_, rfl, .arr _ _⟩, ⟨rfl, fun _ h => by cases h⟩⟩⟩⟩⟩ ⟨(.same (.lit (.string text0)) rfl), (.same (.vs 1 (t15.map (eS))) rfl), (.ptr _ _ 0 rfl), (.ptr _ _ 2 rfl), (.same (.lit (.int .i64 i9)) rfl), (.same (.lit (.string s10_3)) rfl), (.same (.lit (.int .u8 t38)) rfl), (.ptr _ _ 0 rfl), (.same (.lit (.int .i64 t76)) rfl), trivial⟩)) ?_
                    conv => whnf
                    refine CallN.handF (k := 1) (m := 2) (v := .tup []) (hs' := [.box [.ref 1 0 ((o_0_6.map (api.Line.enc)).length), .lit (.int .i64 o_1_6), .lit (.string o_2_3), .lit (.int .i64 o_3_3), .lit (.bool o_4_3), .lit (.int .i64 o_5_3)], .arr 3 (o_0_6.map (api.Line.enc))]) (rest := [.box [.lit (.string now7_0_7), .ref 3 0 ((now7_1_7.map (eI .i64)).length)], .arr 1 (now7_1_7.map (eI .i64))]) (hs2 := [.box [.ref 1 0 ((o_0_6.map (api.Line.enc)).length), .lit (.int .i64 o_1_6), .lit (.string o_2_3), .lit (.int .i64 o_3_3), .lit (.bool o_4_3), .lit (.int .i64 o_5_3)], .arr 3 (o_0_6.map (api.Line.enc)), .box [.lit (.string now7_0_7), .ref 3 0 ((now7_1_7.map (eI .i64)).length)], .arr 1 (now7_1_7.map (eI .i64))]) (ts' := [(0, .lit (.string text0)), (5, .vs 1 (t15.map (eS))), (6, .ptr 0 0), (7, .ptr 2 0), (9, .lit (.int .i64 i9)), (10, .lit (.string s10_3)), (11, .lit (.int .u8 t38)), (74, .ptr 0 0), (76, .lit (.int .i64 t76))]) (Ref3.reader.wrong_ok ee_t77) rfl rfl rfl rfl rfl rfl rfl rfl rfl ?_
                    exact BackS.of (Sees.of (Weak.objs (keep := [0, 1, 2, 3]) (frz := []) (m := 0) (ts := [(0, .lit (.string text0)), (5, .vs 1 (t15.map (eS))), (6, .ptr 0 0), (7, .ptr 2 0), (9, .lit (.int .i64 i9)), (10, .lit (.string s10_3)), (11, .lit (.int .u8 t38))]) (hs := [.box [.ref 1 0 ((o_0_6.map (api.Line.enc)).length), .lit (.int .i64 o_1_6), .lit (.string o_2_3), .lit (.int .i64 o_3_3), .lit (.bool o_4_3), .lit (.int .i64 o_5_3)], .arr 3 (o_0_6.map (api.Line.enc)), .box [.lit (.string now7_0_7), .ref 3 0 ((now7_1_7.map (eI .i64)).length)], .arr 1 (now7_1_7.map (eI .i64))]) rfl (by decide) rfl rfl ⟨⟨_, rfl, WO.boxs ⟨(.ref _ _ _ 1 rfl), (.same (.lit (.int .i64 o_1_6)) rfl), (.same (.lit (.string o_2_3)) rfl), (.same (.lit (.int .i64 o_3_3)) rfl), (.same (.lit (.bool o_4_3)) rfl), (.same (.lit (.int .i64 o_5_3)) rfl), trivial⟩⟩, ⟨⟨_, rfl, .arr _ _⟩, ⟨⟨_, rfl, WO.boxs ⟨(.same (.lit (.string now7_0_7)) rfl), (.ref _ _ _ 3 rfl), trivial⟩⟩, ⟨⟨_, rfl, .arr _ _⟩, ⟨rfl, fun _ h => by cases h⟩⟩⟩⟩⟩ ⟨(.same (.lit (.string text0)) rfl), (.same (.vs 1 (t15.map (eS))) rfl), (.ptr _ _ 0 rfl), (.ptr _ _ 2 rfl), (.same (.lit (.int .i64 i9)) rfl), (.same (.lit (.string s10_3)) rfl), (.same (.lit (.int .u8 t38)) rfl), trivial⟩)) ⟨_, _, _, _, _, _, _, _, _, hj5, rfl⟩
                · have hj1 := bif_t hj0
                  clear hj0
                  obtain ⟨chj2, hj2⟩ := chk_elim hj1; clear hj1
                  obtain ⟨t70, et70, hj3⟩ := letk_elim hj2; clear hj2
                  conv => whnf
                  refine Side.mk chj2 ?_
                  conv => whnf
                  refine Nm.mk ⟨t70, et70, ?_⟩
                  exact BackS.of (Sees.of (Weak.objs (keep := [0, 1, 2, 3]) (frz := []) (m := 0) (ts := [(0, .lit (.string text0)), (5, .vs 1 (t15.map (eS))), (6, .ptr 0 0), (7, .ptr 2 0), (9, .lit (.int .i64 i9)), (10, .lit (.string t70)), (11, .lit (.int .u8 t38))]) (hs := [.box [.ref 1 0 ((r6_0_7.map (api.Line.enc)).length), .lit (.int .i64 r6_1_7), .lit (.string r6_2_7), .lit (.int .i64 r6_3_7), .lit (.bool r6_4_8), .lit (.int .i64 r6_5_7)], .arr 3 (r6_0_7.map (api.Line.enc)), .box [.lit (.string now7_0_7), .ref 3 0 ((now7_1_7.map (eI .i64)).length)], .arr 1 (now7_1_7.map (eI .i64))]) rfl (by decide) rfl rfl ⟨⟨_, rfl, WO.boxs ⟨(.ref _ _ _ 1 rfl), (.same (.lit (.int .i64 r6_1_7)) rfl), (.same (.lit (.string r6_2_7)) rfl), (.same (.lit (.int .i64 r6_3_7)) rfl), (.same (.lit (.bool r6_4_8)) rfl), (.same (.lit (.int .i64 r6_5_7)) rfl), trivial⟩⟩, ⟨⟨_, rfl, .arr _ _⟩, ⟨⟨_, rfl, WO.boxs ⟨(.same (.lit (.string now7_0_7)) rfl), (.ref _ _ _ 3 rfl), trivial⟩⟩, ⟨⟨_, rfl, .arr _ _⟩, ⟨rfl, fun _ h => by cases h⟩⟩⟩⟩⟩ ⟨(.same (.lit (.string text0)) rfl), (.same (.vs 1 (t15.map (eS))) rfl), (.ptr _ _ 0 rfl), (.ptr _ _ 2 rfl), (.same (.lit (.int .i64 i9)) rfl), (.same (.lit (.string t70)) rfl), (.same (.lit (.int .u8 t38)) rfl), trivial⟩)) ⟨_, _, _, _, _, _, _, _, _, hj3, rfl⟩
        · clear hj0
          rintro s ⟨r6_0_3, r6_1_3, r6_2_3, r6_3_3, r6_4_3, r6_5_3, now7_0_3, now7_1_3, s10, hj0, rfl⟩
          unfold Ref3.New.j2 at hj0
          conv => whnf
          refine CutN.of (fun s => ∃ (r6_0_4 : List api.Line) (r6_1_4 : Int) (r6_2_4 : ByteArray) (r6_3_4 : Int) (r6_4_4 : Bool) (r6_5_4 : Int) (now7_0_4 : ByteArray) (now7_1_4 : List Int) (s10_1 : ByteArray), Ref3.New.j3 text0 t15 i9 r6_0_4 r6_1_4 r6_2_4 r6_3_4 r6_4_4 r6_5_4 now7_0_4 now7_1_4 s10_1 = some x1 ∧ s = (⟨131, [(0, .lit (.string text0)), (5, .vs 1 (t15.map (eS))), (6, .ptr 0 0), (7, .ptr 2 0), (9, .lit (.int .i64 i9)), (10, .lit (.string s10_1))], [.box [.ref 1 0 ((r6_0_4.map (api.Line.enc)).length), .lit (.int .i64 r6_1_4), .lit (.string r6_2_4), .lit (.int .i64 r6_3_4), .lit (.bool r6_4_4), .lit (.int .i64 r6_5_4)], .arr 3 (r6_0_4.map (api.Line.enc)), .box [.lit (.string now7_0_4), .ref 3 0 ((now7_1_4.map (eI .i64)).length)], .arr 1 (now7_1_4.map (eI .i64))]⟩ : St)) ?_ ?_
          · obtain ⟨t80, et80, hj1⟩ := bind_elim hj0; clear hj0
            conv => whnf
            refine Gate.go ?_
            conv => whnf
            refine CallN.by (v := .lit (.int .i64 t80)) (Ref3.outside_ok et80) rfl rfl ?_
            obtain ⟨t82, et82, hj2⟩ := letk_elim hj1; clear hj1
            conv => whnf
            refine Nm.mk ⟨t82, et82, ?_⟩
            rcases t82 with _ | _
            · have hj3 := bif_f hj2
              clear hj2
              exact BackS.of (Sees.of (Weak.objs (keep := [0, 1, 2, 3]) (frz := []) (m := 0) (ts := [(0, .lit (.string text0)), (5, .vs 1 (t15.map (eS))), (6, .ptr 0 0), (7, .ptr 2 0), (9, .lit (.int .i64 i9)), (10, .lit (.string s10))]) (hs := [.box [.ref 1 0 ((r6_0_3.map (api.Line.enc)).length), .lit (.int .i64 r6_1_3), .lit (.string r6_2_3), .lit (.int .i64 r6_3_3), .lit (.bool r6_4_3), .lit (.int .i64 r6_5_3)], .arr 3 (r6_0_3.map (api.Line.enc)), .box [.lit (.string now7_0_3), .ref 3 0 ((now7_1_3.map (eI .i64)).length)], .arr 1 (now7_1_3.map (eI .i64))]) rfl (by decide) rfl rfl ⟨⟨_, rfl, WO.boxs ⟨(.ref _ _ _ 1 rfl), (.same (.lit (.int .i64 r6_1_3)) rfl), (.same (.lit (.string r6_2_3)) rfl), (.same (.lit (.int .i64 r6_3_3)) rfl), (.same (.lit (.bool r6_4_3)) rfl), (.same (.lit (.int .i64 r6_5_3)) rfl), trivial⟩⟩, ⟨⟨_, rfl, .arr _ _⟩, ⟨⟨_, rfl, WO.boxs ⟨(.same (.lit (.string now7_0_3)) rfl), (.ref _ _ _ 3 rfl), trivial⟩⟩, ⟨⟨_, rfl, .arr _ _⟩, ⟨rfl, fun _ h => by cases h⟩⟩⟩⟩⟩ ⟨(.same (.lit (.string text0)) rfl), (.same (.vs 1 (t15.map (eS))) rfl), (.ptr _ _ 0 rfl), (.ptr _ _ 2 rfl), (.same (.lit (.int .i64 i9)) rfl), (.same (.lit (.string s10)) rfl), trivial⟩)) ⟨_, _, _, _, _, _, _, _, _, hj3, rfl⟩
            · have hj3 := bif_t hj2
              clear hj2
              obtain ⟨chj4, hj4⟩ := chk_elim hj3; clear hj3
              obtain ⟨t85, et85, hj5⟩ := letk_elim hj4; clear hj4
              conv => whnf
              refine Side.mk chj4 ?_
              conv => whnf
              refine Nm.mk ⟨t85, et85, ?_⟩
              exact BackS.of (Sees.of (Weak.objs (keep := [0, 1, 2, 3]) (frz := []) (m := 0) (ts := [(0, .lit (.string text0)), (5, .vs 1 (t15.map (eS))), (6, .ptr 0 0), (7, .ptr 2 0), (9, .lit (.int .i64 i9)), (10, .lit (.string t85))]) (hs := [.box [.ref 1 0 ((r6_0_3.map (api.Line.enc)).length), .lit (.int .i64 r6_1_3), .lit (.string r6_2_3), .lit (.int .i64 r6_3_3), .lit (.bool r6_4_3), .lit (.int .i64 r6_5_3)], .arr 3 (r6_0_3.map (api.Line.enc)), .box [.lit (.string now7_0_3), .ref 3 0 ((now7_1_3.map (eI .i64)).length)], .arr 1 (now7_1_3.map (eI .i64))]) rfl (by decide) rfl rfl ⟨⟨_, rfl, WO.boxs ⟨(.ref _ _ _ 1 rfl), (.same (.lit (.int .i64 r6_1_3)) rfl), (.same (.lit (.string r6_2_3)) rfl), (.same (.lit (.int .i64 r6_3_3)) rfl), (.same (.lit (.bool r6_4_3)) rfl), (.same (.lit (.int .i64 r6_5_3)) rfl), trivial⟩⟩, ⟨⟨_, rfl, .arr _ _⟩, ⟨⟨_, rfl, WO.boxs ⟨(.same (.lit (.string now7_0_3)) rfl), (.ref _ _ _ 3 rfl), trivial⟩⟩, ⟨⟨_, rfl, .arr _ _⟩, ⟨rfl, fun _ h => by cases h⟩⟩⟩⟩⟩ ⟨(.same (.lit (.string text0)) rfl), (.same (.vs 1 (t15.map (eS))) rfl), (.ptr _ _ 0 rfl), (.ptr _ _ 2 rfl), (.same (.lit (.int .i64 i9)) rfl), (.same (.lit (.string t85)) rfl), trivial⟩)) ⟨_, _, _, _, _, _, _, _, _, hj5, rfl⟩
          · clear hj0
            rintro s ⟨r6_0_4, r6_1_4, r6_2_4, r6_3_4, r6_4_4, r6_5_4, now7_0_4, now7_1_4, s10_1, hj0, rfl⟩
            unfold Ref3.New.j3 at hj0
            conv => whnf
            refine CutN.of (fun s => ∃ (r6_0_5 : List api.Line) (r6_1_5 : Int) (r6_2_5 : ByteArray) (r6_3_5 : Int) (r6_4_5 : Bool) (r6_5_5 : Int) (now7_0_5 : ByteArray) (now7_1_5 : List Int) (goes8_1 : Int) (s10_2 : ByteArray), Ref3.New.j4 text0 t15 i9 r6_0_5 r6_1_5 r6_2_5 r6_3_5 r6_4_5 r6_5_5 now7_0_5 now7_1_5 goes8_1 s10_2 = some x1 ∧ s = (⟨131, [(0, .lit (.string text0)), (5, .vs 1 (t15.map (eS))), (6, .ptr 0 0), (7, .ptr 2 0), (8, .lit (.int .i64 goes8_1)), (9, .lit (.int .i64 i9)), (10, .lit (.string s10_2))], [.box [.ref 1 0 ((r6_0_5.map (api.Line.enc)).length), .lit (.int .i64 r6_1_5), .lit (.string r6_2_5), .lit (.int .i64 r6_3_5), .lit (.bool r6_4_5), .lit (.int .i64 r6_5_5)], .arr 3 (r6_0_5.map (api.Line.enc)), .box [.lit (.string now7_0_5), .ref 3 0 ((now7_1_5.map (eI .i64)).length)], .arr 1 (now7_1_5.map (eI .i64))]⟩ : St)) ?_ ?_
            · obtain ⟨t87, et87, hj1⟩ := bind_elim hj0; clear hj0
              conv => whnf
              refine Gate.go ?_
              conv => whnf
              refine CallN.by (v := .lit (.string t87)) (Ref3.right_ok et87) rfl rfl ?_
              conv => whnf
              refine CutN.of (fun s => ∃ (r6_0_6 : List api.Line) (r6_1_6 : Int) (r6_2_6 : ByteArray) (r6_3_6 : Int) (r6_4_6 : Bool) (r6_5_6 : Int) (now7_0_6 : ByteArray) (now7_1_6 : List Int) (t97 : Bool), Ref3.New.j5 text0 t15 i9 s10_1 t87 r6_0_6 r6_1_6 r6_2_6 r6_3_6 r6_4_6 r6_5_6 now7_0_6 now7_1_6 t97 = some x1 ∧ s = (⟨131, [(0, .lit (.string text0)), (5, .vs 1 (t15.map (eS))), (6, .ptr 0 0), (7, .ptr 2 0), (8, .lit (.int .i64 0)), (9, .lit (.int .i64 i9)), (10, .lit (.string s10_1)), (13, .lit (.string t87)), (97, .lit (.bool t97))], [.box [.ref 1 0 ((r6_0_6.map (api.Line.enc)).length), .lit (.int .i64 r6_1_6), .lit (.string r6_2_6), .lit (.int .i64 r6_3_6), .lit (.bool r6_4_6), .lit (.int .i64 r6_5_6)], .arr 3 (r6_0_6.map (api.Line.enc)), .box [.lit (.string now7_0_6), .ref 3 0 ((now7_1_6.map (eI .i64)).length)], .arr 1 (now7_1_6.map (eI .i64))]⟩ : St)) ?_ ?_
              · obtain ⟨t89, et89, hj2⟩ := letk_elim hj1; clear hj1
                conv => whnf
                refine Nm.mk ⟨t89, et89, ?_⟩
                rcases t89 with _ | _
                · have hj3 := bif_f hj2
                  clear hj2
                  exact BackS.of (Sees.of (Weak.objs (keep := [0, 1, 2, 3]) (frz := []) (m := 0) (ts := [(0, .lit (.string text0)), (5, .vs 1 (t15.map (eS))), (6, .ptr 0 0), (7, .ptr 2 0), (8, .lit (.int .i64 0)), (9, .lit (.int .i64 i9)), (10, .lit (.string s10_1)), (13, .lit (.string t87)), (97, .lit (.bool false))]) (hs := [.box [.ref 1 0 ((r6_0_4.map (api.Line.enc)).length), .lit (.int .i64 r6_1_4), .lit (.string r6_2_4), .lit (.int .i64 r6_3_4), .lit (.bool r6_4_4), .lit (.int .i64 r6_5_4)], .arr 3 (r6_0_4.map (api.Line.enc)), .box [.lit (.string now7_0_4), .ref 3 0 ((now7_1_4.map (eI .i64)).length)], .arr 1 (now7_1_4.map (eI .i64))]) rfl (by decide) rfl rfl ⟨⟨_, rfl, WO.boxs ⟨(.ref _ _ _ 1 rfl), (.same (.lit (.int .i64 r6_1_4)) rfl), (.same (.lit (.string r6_2_4)) rfl), (.same (.lit (.int .i64 r6_3_4)) rfl), (.same (.lit (.bool r6_4_4)) rfl), (.same (.lit (.int .i64 r6_5_4)) rfl), trivial⟩⟩, ⟨⟨_, rfl, .arr _ _⟩, ⟨⟨_, rfl, WO.boxs ⟨(.same (.lit (.string now7_0_4)) rfl), (.ref _ _ _ 3 rfl), trivial⟩⟩, ⟨⟨_, rfl, .arr _ _⟩, ⟨rfl, fun _ h => by cases h⟩⟩⟩⟩⟩ ⟨(.same (.lit (.string text0)) rfl), (.same (.vs 1 (t15.map (eS))) rfl), (.ptr _ _ 0 rfl), (.ptr _ _ 2 rfl), (.same (.lit (.int .i64 0)) rfl), (.same (.lit (.int .i64 i9)) rfl), (.same (.lit (.string s10_1)) rfl), (.same (.lit (.string t87)) rfl), (.same (.lit (.bool false)) rfl), trivial⟩)) ⟨_, _, _, _, _, _, _, _, _, hj3, rfl⟩
                · have hj3 := bif_t hj2
                  clear hj2
                  obtain ⟨t93, et93, hj4⟩ := letk_elim hj3; clear hj3
                  conv => whnf
                  refine Nm.mk ⟨t93, et93, ?_⟩
                  obtain ⟨t94, et94, hj5⟩ := letk_elim hj4; clear hj4
                  conv => whnf
                  refine Nm.mk ⟨t94, et94, ?_⟩
                  obtain ⟨chj6, hj6⟩ := chk_elim hj5; clear hj5
                  obtain ⟨t95, et95, hj7⟩ := letk_elim hj6; clear hj6
                  conv => whnf
                  refine Side.mk chj6 ?_
                  conv => whnf
                  refine Nm.mk ⟨t95, et95, ?_⟩
                  obtain ⟨t96, et96, hj8⟩ := letk_elim hj7; clear hj7
                  conv => whnf
                  refine Nm.mk ⟨t96, et96, ?_⟩
                  exact BackS.of (Sees.of (Weak.objs (keep := [0, 1, 2, 3]) (frz := []) (m := 0) (ts := [(0, .lit (.string text0)), (5, .vs 1 (t15.map (eS))), (6, .ptr 0 0), (7, .ptr 2 0), (8, .lit (.int .i64 0)), (9, .lit (.int .i64 i9)), (10, .lit (.string s10_1)), (13, .lit (.string t87)), (97, .lit (.bool t96))]) (hs := [.box [.ref 1 0 ((r6_0_4.map (api.Line.enc)).length), .lit (.int .i64 r6_1_4), .lit (.string r6_2_4), .lit (.int .i64 r6_3_4), .lit (.bool r6_4_4), .lit (.int .i64 r6_5_4)], .arr 3 (r6_0_4.map (api.Line.enc)), .box [.lit (.string now7_0_4), .ref 3 0 ((now7_1_4.map (eI .i64)).length)], .arr 1 (now7_1_4.map (eI .i64))]) rfl (by decide) rfl rfl ⟨⟨_, rfl, WO.boxs ⟨(.ref _ _ _ 1 rfl), (.same (.lit (.int .i64 r6_1_4)) rfl), (.same (.lit (.string r6_2_4)) rfl), (.same (.lit (.int .i64 r6_3_4)) rfl), (.same (.lit (.bool r6_4_4)) rfl), (.same (.lit (.int .i64 r6_5_4)) rfl), trivial⟩⟩, ⟨⟨_, rfl, .arr _ _⟩, ⟨⟨_, rfl, WO.boxs ⟨(.same (.lit (.string now7_0_4)) rfl), (.ref _ _ _ 3 rfl), trivial⟩⟩, ⟨⟨_, rfl, .arr _ _⟩, ⟨rfl, fun _ h => by cases h⟩⟩⟩⟩⟩ ⟨(.same (.lit (.string text0)) rfl), (.same (.vs 1 (t15.map (eS))) rfl), (.ptr _ _ 0 rfl), (.ptr _ _ 2 rfl), (.same (.lit (.int .i64 0)) rfl), (.same (.lit (.int .i64 i9)) rfl), (.same (.lit (.string s10_1)) rfl), (.same (.lit (.string t87)) rfl), (.same (.lit (.bool t96)) rfl), trivial⟩)) ⟨_, _, _, _, _, _, _, _, _, hj8, rfl⟩
              · clear hj1
                rintro s ⟨r6_0_6, r6_1_6, r6_2_6, r6_3_6, r6_4_6, r6_5_6, now7_0_6, now7_1_6, t97, hj0, rfl⟩
                unfold Ref3.New.j5 at hj0
                rcases t97 with _ | _
                · have hj1 := bif_f hj0
                  clear hj0
                  exact BackS.of (Sees.of (Weak.objs (keep := [0, 1, 2, 3]) (frz := []) (m := 0) (ts := [(0, .lit (.string text0)), (5, .vs 1 (t15.map (eS))), (6, .ptr 0 0), (7, .ptr 2 0), (8, .lit (.int .i64 0)), (9, .lit (.int .i64 i9)), (10, .lit (.string s10_1))]) (hs := [.box [.ref 1 0 ((r6_0_6.map (api.Line.enc)).length), .lit (.int .i64 r6_1_6), .lit (.string r6_2_6), .lit (.int .i64 r6_3_6), .lit (.bool r6_4_6), .lit (.int .i64 r6_5_6)], .arr 3 (r6_0_6.map (api.Line.enc)), .box [.lit (.string now7_0_6), .ref 3 0 ((now7_1_6.map (eI .i64)).length)], .arr 1 (now7_1_6.map (eI .i64))]) rfl (by decide) rfl rfl ⟨⟨_, rfl, WO.boxs ⟨(.ref _ _ _ 1 rfl), (.same (.lit (.int .i64 r6_1_6)) rfl), (.same (.lit (.string r6_2_6)) rfl), (.same (.lit (.int .i64 r6_3_6)) rfl), (.same (.lit (.bool r6_4_6)) rfl), (.same (.lit (.int .i64 r6_5_6)) rfl), trivial⟩⟩, ⟨⟨_, rfl, .arr _ _⟩, ⟨⟨_, rfl, WO.boxs ⟨(.same (.lit (.string now7_0_6)) rfl), (.ref _ _ _ 3 rfl), trivial⟩⟩, ⟨⟨_, rfl, .arr _ _⟩, ⟨rfl, fun _ h => by cases h⟩⟩⟩⟩⟩ ⟨(.same (.lit (.string text0)) rfl), (.same (.vs 1 (t15.map (eS))) rfl), (.ptr _ _ 0 rfl), (.ptr _ _ 2 rfl), (.same (.lit (.int .i64 0)) rfl), (.same (.lit (.int .i64 i9)) rfl), (.same (.lit (.string s10_1)) rfl), trivial⟩)) ⟨_, _, _, _, _, _, _, _, _, _, hj1, rfl⟩
                · have hj1 := bif_t hj0
                  clear hj0
                  obtain ⟨t100, et100, hj2⟩ := letk_elim hj1; clear hj1
                  conv => whnf
                  refine Nm.mk ⟨t100, et100, ?_⟩
                  obtain ⟨t101, et101, hj3⟩ := letk_elim hj2; clear hj2
                  conv => whnf
                  refine Nm.mk ⟨t101, et101, ?_⟩
                  obtain ⟨chj4, hj4⟩ := chk_elim hj3; clear hj3
                  obtain ⟨t102, et102, hj5⟩ := letk_elim hj4; clear hj4
                  conv => whnf
                  refine Side.mk chj4 ?_
                  conv => whnf
                  refine Nm.mk ⟨t102, et102, ?_⟩
                  obtain ⟨t104, et104, hj6⟩ := letk_elim hj5; clear hj5
                  conv => whnf
                  refine Nm.mk ⟨t104, et104, ?_⟩
                  exact BackS.of (Sees.of (Weak.objs (keep := [0, 1, 2, 3]) (frz := []) (m := 0) (ts := [(0, .lit (.string text0)), (5, .vs 1 (t15.map (eS))), (6, .ptr 0 0), (7, .ptr 2 0), (8, .lit (.int .i64 t104)), (9, .lit (.int .i64 i9)), (10, .lit (.string t102))]) (hs := [.box [.ref 1 0 ((r6_0_6.map (api.Line.enc)).length), .lit (.int .i64 r6_1_6), .lit (.string r6_2_6), .lit (.int .i64 r6_3_6), .lit (.bool r6_4_6), .lit (.int .i64 r6_5_6)], .arr 3 (r6_0_6.map (api.Line.enc)), .box [.lit (.string now7_0_6), .ref 3 0 ((now7_1_6.map (eI .i64)).length)], .arr 1 (now7_1_6.map (eI .i64))]) rfl (by decide) rfl rfl ⟨⟨_, rfl, WO.boxs ⟨(.ref _ _ _ 1 rfl), (.same (.lit (.int .i64 r6_1_6)) rfl), (.same (.lit (.string r6_2_6)) rfl), (.same (.lit (.int .i64 r6_3_6)) rfl), (.same (.lit (.bool r6_4_6)) rfl), (.same (.lit (.int .i64 r6_5_6)) rfl), trivial⟩⟩, ⟨⟨_, rfl, .arr _ _⟩, ⟨⟨_, rfl, WO.boxs ⟨(.same (.lit (.string now7_0_6)) rfl), (.ref _ _ _ 3 rfl), trivial⟩⟩, ⟨⟨_, rfl, .arr _ _⟩, ⟨rfl, fun _ h => by cases h⟩⟩⟩⟩⟩ ⟨(.same (.lit (.string text0)) rfl), (.same (.vs 1 (t15.map (eS))) rfl), (.ptr _ _ 0 rfl), (.ptr _ _ 2 rfl), (.same (.lit (.int .i64 t104)) rfl), (.same (.lit (.int .i64 i9)) rfl), (.same (.lit (.string t102)) rfl), trivial⟩)) ⟨_, _, _, _, _, _, _, _, _, _, hj6, rfl⟩
            · clear hj0
              rintro s ⟨r6_0_5, r6_1_5, r6_2_5, r6_3_5, r6_4_5, r6_5_5, now7_0_5, now7_1_5, goes8_1, s10_2, hj0, rfl⟩
              unfold Ref3.New.j4 at hj0
              obtain ⟨t108, et108, hj1⟩ := letk_elim hj0; clear hj0
              conv => whnf
              refine Nm.mk ⟨t108, et108, ?_⟩
              obtain ⟨⟨o_0_3, o_1_3⟩, ee_t109, hj2⟩ := bind_elim hj1; clear hj1
              conv => whnf
              refine Gate.weak (Sees.of (Weak.objs (keep := [2, 3, 0, 1]) (frz := []) (m := 0) (ts := [(0, .lit (.string text0)), (5, .vs 1 (t15.map (eS))), (6, .ptr 2 0), (7, .ptr 0 0), (8, .lit (.int .i64 goes8_1)), (9, .lit (.int .i64 i9)), (105, .ptr 0 0), (106, .lit (.string s10_2)), (108, .lit (.int .i64 t108))]) (hs := [.box [.lit (.string now7_0_5), .ref 1 0 ((now7_1_5.map (eI .i64)).length)], .arr 1 (now7_1_5.map (eI .i64)), .box [.ref 3 0 ((r6_0_5.map (api.Line.enc)).length), .lit (.int .i64 r6_1_5), .lit (.string r6_2_5), .lit (.int .i64 r6_3_5), .lit (.bool r6_4_5), .lit (.int .i64 r6_5_5)], .arr 3 (r6_0_5.map (api.Line.enc))]) rfl (by decide) rfl rfl ⟨⟨_, rfl, WO.boxs ⟨(.same (.lit (.string now7_0_5)) rfl), (.ref _ _ _ 1 rfl), trivial⟩⟩, ⟨⟨_, rfl, .arr _ _⟩, ⟨⟨_, rfl, WO.boxs ⟨(.ref _ _ _ 3 rfl), (.same (.lit (.int .i64 r6_1_5)) rfl), (.same (.lit (.string r6_2_5)) rfl), (.same (.lit (.int .i64 r6_3_5)) rfl), (.same (.lit (.bool r6_4_5)) rfl), (.same (.lit (.int .i64 r6_5_5)) rfl), trivial⟩⟩, ⟨⟨_, rfl, .arr _ _⟩, ⟨rfl, fun _ h => by cases h⟩⟩⟩⟩⟩ ⟨(.same (.lit (.string text0)) rfl), (.same (.vs 1 (t15.map (eS))) rfl), (.ptr _ _ 2 rfl), (.ptr _ _ 0 rfl), (.same (.lit (.int .i64 goes8_1)) rfl), (.same (.lit (.int .i64 i9)) rfl), (.ptr _ _ 0 rfl), (.same (.lit (.string s10_2)) rfl), (.same (.lit (.int .i64 t108)) rfl), trivial⟩)) ?_
              conv => whnf
              refine CallN.handF (k := 1) (m := 2) (v := .tup []) (hs' := [.box [.lit (.string o_0_3), .ref 1 0 ((o_1_3.map (eI .i64)).length)], .arr 1 (o_1_3.map (eI .i64))]) (rest := [.box [.ref 3 0 ((r6_0_5.map (api.Line.enc)).length), .lit (.int .i64 r6_1_5), .lit (.string r6_2_5), .lit (.int .i64 r6_3_5), .lit (.bool r6_4_5), .lit (.int .i64 r6_5_5)], .arr 3 (r6_0_5.map (api.Line.enc))]) (hs2 := [.box [.lit (.string o_0_3), .ref 1 0 ((o_1_3.map (eI .i64)).length)], .arr 1 (o_1_3.map (eI .i64)), .box [.ref 3 0 ((r6_0_5.map (api.Line.enc)).length), .lit (.int .i64 r6_1_5), .lit (.string r6_2_5), .lit (.int .i64 r6_3_5), .lit (.bool r6_4_5), .lit (.int .i64 r6_5_5)], .arr 3 (r6_0_5.map (api.Line.enc))]) (ts' := [(0, .lit (.string text0)), (5, .vs 1 (t15.map (eS))), (6, .ptr 2 0), (7, .ptr 0 0), (8, .lit (.int .i64 goes8_1)), (9, .lit (.int .i64 i9)), (105, .ptr 0 0), (106, .lit (.string s10_2)), (108, .lit (.int .i64 t108))]) (Ref3.written.add_ok ee_t109) rfl rfl rfl rfl rfl rfl rfl rfl rfl ?_
              obtain ⟨t111, et111, hj3⟩ := letk_elim hj2; clear hj2
              conv => whnf
              refine Nm.mk ⟨t111, et111, ?_⟩
              rcases t111 with _ | _
              · have hj4 := bif_f hj3
                clear hj3
                obtain ⟨⟨o_0_4, o_1_4, o_2_2, o_3_2, o_4_2, o_5_2⟩, ee_t114, hj5⟩ := bind_elim hj4; clear hj4
                conv => whnf
                refine Gate.weak (Sees.trans (s' := (⟨131, [(0, .lit (.string text0)), (5, .vs 1 (t15.map (eS))), (6, .ptr 0 0), (8, .lit (.int .i64 goes8_1)), (9, .lit (.int .i64 i9)), (112, .iptr (.agg [.lit (.string o_0_3), .vs 1 (o_1_3.map (eI .i64))])), (113, .ptr 0 0)], [.box [.ref 1 0 ((r6_0_5.map (api.Line.enc)).length), .lit (.int .i64 r6_1_5), .lit (.string r6_2_5), .lit (.int .i64 r6_3_5), .lit (.bool r6_4_5), .lit (.int .i64 r6_5_5)], .arr 3 (r6_0_5.map (api.Line.enc))]⟩ : St)) (Sees.trans (s' := (⟨131, [(0, .lit (.string text0)), (5, .vs 1 (t15.map (eS))), (6, .ptr 0 0), (8, .lit (.int .i64 goes8_1)), (9, .lit (.int .i64 i9)), (112, .ptr 2 0), (113, .ptr 0 0)], [.box [.ref 1 0 ((r6_0_5.map (api.Line.enc)).length), .lit (.int .i64 r6_1_5), .lit (.string r6_2_5), .lit (.int .i64 r6_3_5), .lit (.bool r6_4_5), .lit (.int .i64 r6_5_5)], .arr 3 (r6_0_5.map (api.Line.enc)), .box [.lit (.string o_0_3), .vs 1 (o_1_3.map (eI .i64))]]⟩ : St)) (Sees.of (Weak.objs (keep := [2, 3, 0]) (frz := [1]) (m := 0) (ts := [(0, .lit (.string text0)), (5, .vs 1 (t15.map (eS))), (6, .ptr 0 0), (8, .lit (.int .i64 goes8_1)), (9, .lit (.int .i64 i9)), (112, .ptr 2 0), (113, .ptr 0 0)]) (hs := [.box [.ref 1 0 ((r6_0_5.map (api.Line.enc)).length), .lit (.int .i64 r6_1_5), .lit (.string r6_2_5), .lit (.int .i64 r6_3_5), .lit (.bool r6_4_5), .lit (.int .i64 r6_5_5)], .arr 3 (r6_0_5.map (api.Line.enc)), .box [.lit (.string o_0_3), .vs 1 (o_1_3.map (eI .i64))]]) rfl (by decide) rfl rfl ⟨⟨_, rfl, WO.boxs ⟨(.ref _ _ _ 1 rfl), (.same (.lit (.int .i64 r6_1_5)) rfl), (.same (.lit (.string r6_2_5)) rfl), (.same (.lit (.int .i64 r6_3_5)) rfl), (.same (.lit (.bool r6_4_5)) rfl), (.same (.lit (.int .i64 r6_5_5)) rfl), trivial⟩⟩, ⟨⟨_, rfl, .arr _ _⟩, ⟨⟨_, rfl, WO.boxs ⟨(.same (.lit (.string o_0_3)) rfl), (WV.all (k := 1) (by decide) rfl), trivial⟩⟩, ⟨rfl, fun _ h => by cases h⟩⟩⟩⟩ ⟨(.same (.lit (.string text0)) rfl), (.same (.vs 1 (t15.map (eS))) rfl), (.ptr _ _ 0 rfl), (.same (.lit (.int .i64 goes8_1)) rfl), (.same (.lit (.int .i64 i9)) rfl), (.ptr _ _ 2 rfl), (.ptr _ _ 0 rfl), trivial⟩)) (Sees.of (Weak.objs (keep := [0, 1]) (frz := [2]) (m := 0) (ts := [(0, .lit (.string text0)), (5, .vs 1 (t15.map (eS))), (6, .ptr 0 0), (8, .lit (.int .i64 goes8_1)), (9, .lit (.int .i64 i9)), (112, .iptr (.agg [.lit (.string o_0_3), .vs 1 (o_1_3.map (eI .i64))])), (113, .ptr 0 0)]) (hs := [.box [.ref 1 0 ((r6_0_5.map (api.Line.enc)).length), .lit (.int .i64 r6_1_5), .lit (.string r6_2_5), .lit (.int .i64 r6_3_5), .lit (.bool r6_4_5), .lit (.int .i64 r6_5_5)], .arr 3 (r6_0_5.map (api.Line.enc))]) rfl (by decide) rfl rfl ⟨⟨_, rfl, WO.boxs ⟨(.ref _ _ _ 1 rfl), (.same (.lit (.int .i64 r6_1_5)) rfl), (.same (.lit (.string r6_2_5)) rfl), (.same (.lit (.int .i64 r6_3_5)) rfl), (.same (.lit (.bool r6_4_5)) rfl), (.same (.lit (.int .i64 r6_5_5)) rfl), trivial⟩⟩, ⟨⟨_, rfl, .arr _ _⟩, ⟨rfl, fun _ h => by cases h⟩⟩⟩ ⟨(.same (.lit (.string text0)) rfl), (.same (.vs 1 (t15.map (eS))) rfl), (.ptr _ _ 0 rfl), (.same (.lit (.int .i64 goes8_1)) rfl), (.same (.lit (.int .i64 i9)) rfl), (.ptrFrz 2 _ (by decide) rfl rfl), (.ptr _ _ 0 rfl), trivial⟩))) (Sees.of (Weak.objs (keep := [0, 1]) (frz := []) (m := 0) (ts := [(0, .lit (.string text0)), (5, .vs 1 (t15.map (eS))), (6, .ptr 0 0), (8, .lit (.int .i64 goes8_1)), (9, .lit (.int .i64 i9)), (112, .iptr (.agg [.lit (.string o_0_3), .vs 1 (o_1_3.map (eI .i64))])), (113, .ptr 0 0)]) (hs := [.box [.ref 1 0 ((r6_0_5.map (api.Line.enc)).length), .lit (.int .i64 r6_1_5), .lit (.string r6_2_5), .lit (.int .i64 r6_3_5), .lit (.bool r6_4_5), .lit (.int .i64 r6_5_5)], .arr 3 (r6_0_5.map (api.Line.enc))]) rfl (by decide) rfl rfl ⟨⟨_, rfl, WO.boxs ⟨(.ref _ _ _ 1 rfl), (.same (.lit (.int .i64 r6_1_5)) rfl), (.same (.lit (.string r6_2_5)) rfl), (.same (.lit (.int .i64 r6_3_5)) rfl), (.same (.lit (.bool r6_4_5)) rfl), (.same (.lit (.int .i64 r6_5_5)) rfl), trivial⟩⟩, ⟨⟨_, rfl, .arr _ _⟩, ⟨rfl, fun _ h => by cases h⟩⟩⟩ ⟨(.same (.lit (.string text0)) rfl), (.same (.vs 1 (t15.map (eS))) rfl), (.ptr _ _ 0 rfl), (.same (.lit (.int .i64 goes8_1)) rfl), (.same (.lit (.int .i64 i9)) rfl), (.same (.iptr (.agg [.lit (.string o_0_3), .vs 1 (o_1_3.map (eI .i64))])) rfl), (.ptr _ _ 0 rfl), trivial⟩))) ?_
                conv => whnf
                refine CallN.hand (k := 1) (v := .tup []) (hs' := [.box [.ref 1 0 ((o_0_4.map (api.Line.enc)).length), .lit (.int .i64 o_1_4), .lit (.string o_2_2), .lit (.int .i64 o_3_2), .lit (.bool o_4_2), .lit (.int .i64 o_5_2)], .arr 3 (o_0_4.map (api.Line.enc))]) (ts' := [(0, .lit (.string text0)), (5, .vs 1 (t15.map (eS))), (6, .ptr 0 0), (8, .lit (.int .i64 goes8_1)), (9, .lit (.int .i64 i9)), (112, .iptr (.agg [.lit (.string o_0_3), .vs 1 (o_1_3.map (eI .i64))])), (113, .ptr 0 0)]) (Ref3.written.statements_ok ee_t114) rfl rfl ?_
                conv => whnf
                refine Gate.go ?_
                conv => whnf
                refine Nm.mk ⟨[.lit (.string (⟨#[]⟩)), .nils], rfl, ?_⟩
                conv => whnf
                refine Nm.mk ⟨[.lit (.string (⟨#[]⟩)), .nils], rfl, ?_⟩
                obtain ⟨t25, et25, hj6⟩ := letk_elim hj5; clear hj5
                conv => whnf
                refine Nm.mk ⟨t25, et25, ?_⟩
                exact BackS.of (Sees.of (Weak.objs (keep := [0, 1, 2]) (frz := []) (m := 1) (ts := [(0, .lit (.string text0)), (5, .vs 1 (t15.map (eS))), (6, .ptr 0 0), (7, .ptr 2 0), (8, .lit (.int .i64 goes8_1)), (9, .lit (.int .i64 t25))]) (hs := [.box [.ref 1 0 ((o_0_4.map (api.Line.enc)).length), .lit (.int .i64 o_1_4), .lit (.string o_2_2), .lit (.int .i64 o_3_2), .lit (.bool o_4_2), .lit (.int .i64 o_5_2)], .arr 3 (o_0_4.map (api.Line.enc)), .box [.lit (.string ((⟨#[]⟩))), .ref 3 0 ((([]).map (eI .i64)).length)], .arr 1 ((([])).map (eI .i64))]) rfl (by decide) rfl rfl ⟨⟨_, rfl, WO.boxs ⟨(.ref _ _ _ 1 rfl), (.same (.lit (.int .i64 o_1_4)) rfl), (.same (.lit (.string o_2_2)) rfl), (.same (.lit (.int .i64 o_3_2)) rfl), (.same (.lit (.bool o_4_2)) rfl), (.same (.lit (.int .i64 o_5_2)) rfl), trivial⟩⟩, ⟨⟨_, rfl, .arr _ _⟩, ⟨⟨_, rfl, WO.boxs ⟨(.same (.lit (.string (⟨#[]⟩))) rfl), (.nilsRef 3 (by decide) (by decide)), trivial⟩⟩, ⟨rfl, fun ob ho => by simp only [List.mem_cons, List.not_mem_nil, or_false] at ho; exact ⟨_, ho⟩⟩⟩⟩⟩ ⟨(.same (.lit (.string text0)) rfl), (.same (.vs 1 (t15.map (eS))) rfl), (.ptr _ _ 0 rfl), (.ptr _ _ 2 rfl), (.same (.lit (.int .i64 goes8_1)) rfl), (.same (.lit (.int .i64 t25)) rfl), trivial⟩)) ⟨_, hl1 _ (Option.some.inj hj6).symm, rfl⟩
              · have hj4 := bif_t hj3
                clear hj3
                obtain ⟨t25_1, et25_1, hj5⟩ := letk_elim hj4; clear hj4
                conv => whnf
                refine Nm.mk ⟨t25_1, et25_1, ?_⟩
                exact BackS.of (Sees.of (Weak.objs (keep := [2, 3, 0, 1]) (frz := []) (m := 0) (ts := [(0, .lit (.string text0)), (5, .vs 1 (t15.map (eS))), (6, .ptr 0 0), (7, .ptr 2 0), (8, .lit (.int .i64 goes8_1)), (9, .lit (.int .i64 t25_1))]) (hs := [.box [.ref 1 0 ((r6_0_5.map (api.Line.enc)).length), .lit (.int .i64 r6_1_5), .lit (.string r6_2_5), .lit (.int .i64 r6_3_5), .lit (.bool r6_4_5), .lit (.int .i64 r6_5_5)], .arr 3 (r6_0_5.map (api.Line.enc)), .box [.lit (.string o_0_3), .ref 3 0 ((o_1_3.map (eI .i64)).length)], .arr 1 (o_1_3.map (eI .i64))]) rfl (by decide) rfl rfl ⟨⟨_, rfl, WO.boxs ⟨(.ref _ _ _ 1 rfl), (.same (.lit (.int .i64 r6_1_5)) rfl), (.same (.lit (.string r6_2_5)) rfl), (.same (.lit (.int .i64 r6_3_5)) rfl), (.same (.lit (.bool r6_4_5)) rfl), (.same (.lit (.int .i64 r6_5_5)) rfl), trivial⟩⟩, ⟨⟨_, rfl, .arr _ _⟩, ⟨⟨_, rfl, WO.boxs ⟨(.same (.lit (.string o_0_3)) rfl), (.ref _ _ _ 3 rfl), trivial⟩⟩, ⟨⟨_, rfl, .arr _ _⟩, ⟨rfl, fun _ h => by cases h⟩⟩⟩⟩⟩ ⟨(.same (.lit (.string text0)) rfl), (.same (.vs 1 (t15.map (eS))) rfl), (.ptr _ _ 0 rfl), (.ptr _ _ 2 rfl), (.same (.lit (.int .i64 goes8_1)) rfl), (.same (.lit (.int .i64 t25_1)) rfl), trivial⟩)) ⟨_, hl1 _ (Option.some.inj hj5).symm, rfl⟩

end Go.Q
