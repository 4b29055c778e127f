import Derived.Test.YtoecgpemlfoogaaGreatDoorGN3
import Derived.Test.YtoecgpemlfoogaaGreatDoorFX
import Derived.Test.YtoecgpemlfoogaaGreatDoorProg
namespace Go.Q
open Go Go.Proofs
set_option maxRecDepth 10000
set_option maxHeartbeats 2000000
noncomputable def Ref3.marks.j0 (s0:ByteArray) (open1_1:Int) (out5:List Int) (i6:Int) (t15:Bool):Option ((Int × (List Int) × Int) ⊕ ((List Int))) :=
  bif t15 then
    chk (0 ≤ i6 ∧ i6 < (s0.size:Int)) <|
    letk (bt s0 i6) fun t32 =>
    chk ((out5.length + ([t32]).length) * 1 ≤ 140737488355328) <|
    letk (out5 ++ ([t32])) fun t46_3 =>
    letk (IntKind.i64.wrap (i6 + (1:Int))) fun t14_3 =>
    some (.inl (t32,t46_3,t14_3))
  else
    letk (open1_1 != (0:Int)) fun t35 =>
    bif t35 then
      chk (0 ≤ i6 ∧ i6 < (s0.size:Int)) <|
      letk (bt s0 i6) fun t39 =>
      letk (t39 == open1_1) fun t41 =>
      bif t41 then
        chk ((out5.length + ([0]).length) * 1 ≤ 140737488355328) <|
        letk (out5 ++ ([0])) fun t46_2 =>
        letk (IntKind.i64.wrap (i6 + (1:Int))) fun t14_2 =>
        some (.inl (0,t46_2,t14_2))
      else
        chk ((out5.length + ([open1_1]).length) * 1 ≤ 140737488355328) <|
        letk (out5 ++ ([open1_1])) fun t46_1 =>
        letk (IntKind.i64.wrap (i6 + (1:Int))) fun t14_1 =>
        some (.inl (open1_1,t46_1,t14_1))
    else
      chk ((out5.length + ([open1_1]).length) * 1 ≤ 140737488355328) <|
      letk (out5 ++ ([open1_1])) fun t46 =>
      letk (IntKind.i64.wrap (i6 + (1:Int))) fun t14 =>
      some (.inl (open1_1,t46,t14))
noncomputable def Ref3.marks.s0 (s0:ByteArray) (open1_1:Int) (out5:List Int) (i6:Int):Option ((Int × (List Int) × Int) ⊕ ((List Int))) :=
  letk ((s0.size:Int)) fun t11 =>
  letk (decide (i6 < t11)) fun t12 =>
  bif t12 then
    letk (open1_1 == (0:Int)) fun t17 =>
    bif t17 then
      chk (0 ≤ i6 ∧ i6 < (s0.size:Int)) <|
      letk (bt s0 i6) fun t21 =>
      letk (t21 == (39:Int)) fun t22 =>
      bif t22 then
        Ref3.marks.j0 s0 open1_1 out5 i6 true
      else
        chk (0 ≤ i6 ∧ i6 < (s0.size:Int)) <|
        letk (bt s0 i6) fun t26 =>
        letk (t26 == (34:Int)) fun t27 =>
        Ref3.marks.j0 s0 open1_1 out5 i6 t27
    else
      Ref3.marks.j0 s0 open1_1 out5 i6 false
  else
    some (.inr out5)
noncomputable def Ref3.marks.l0 (s0:ByteArray) (open1_1:Int) (out5:List Int) (i6:Int):Option ((List Int)):=loopO (fun v:Int × (List Int) × Int=>Ref3.marks.s0 s0 v.1 v.2.1 v.2.2) (open1_1,out5,i6)
theorem Ref3.marks.l0_eq (s0:ByteArray) (open1_1:Int) (out5:List Int) (i6:Int):Ref3.marks.l0 s0 open1_1 out5 i6 = (Ref3.marks.s0 s0 open1_1 out5 i6).bind (Sum.elim (fun v=>Ref3.marks.l0 s0 v.1 v.2.1 v.2.2) some):=loopO_eq _ _
noncomputable def Ref3.marks (s0:ByteArray) (open1:Int):Option ((List Int)) :=
  Ref3.marks.l0 s0 open1 ([open1]) 0
noncomputable def Ref3.outside.s0 (s0:ByteArray) (c2:Int) (t11:(List Int)) (i8:Int):Option (Int ⊕ Int) :=
  letk ((s0.size:Int)) fun t14 =>
  letk (decide (i8 < t14)) fun t15 =>
  bif t15 then
    chk (0 ≤ i8 ∧ i8 < (s0.size:Int)) <|
    letk (bt s0 i8) fun t20 =>
    letk (t20 == c2) fun t22 =>
    bif t22 then
      chk (0 ≤ i8) <|
      Option.bind (t11[i8.toNat]?) fun t26 =>
      letk (t26 == (0:Int)) fun t28 =>
      bif t28 then
        some (.inr i8)
      else
        letk (IntKind.i64.wrap (i8 + (1:Int))) fun t17_1 =>
        some (.inl t17_1)
    else
      letk (IntKind.i64.wrap (i8 + (1:Int))) fun t17 =>
      some (.inl t17)
  else
    some (.inr (-1))
noncomputable def Ref3.outside.l0 (s0:ByteArray) (c2:Int) (t11:(List Int)) (i8:Int):Option Int:=loopO (fun v:Int=>Ref3.outside.s0 s0 c2 t11 v) i8
theorem Ref3.outside.l0_eq (s0:ByteArray) (c2:Int) (t11:(List Int)) (i8:Int):Ref3.outside.l0 s0 c2 t11 i8 = (Ref3.outside.s0 s0 c2 t11 i8).bind (Sum.elim (fun v=>Ref3.outside.l0 s0 c2 t11 v) some):=loopO_eq _ _
noncomputable def Ref3.outside (s0:ByteArray) (open1 c2:Int):Option Int :=
  Option.bind (Ref3.marks s0 open1) fun t11 =>
  Ref3.outside.l0 s0 c2 t11 0
noncomputable def Ref3.isDigit (c0:Int):Option Bool :=
  letk (decide (c0 ≥ (48:Int))) fun t4 =>
  bif t4 then
    letk (decide (c0 ≤ (57:Int))) fun t7 =>
    some t7
  else
    some false
noncomputable def Ref3.digits.s0 (s0:ByteArray) (n3:Int):Option (Int ⊕ Int) :=
  letk ((s0.size:Int)) fun t6 =>
  letk (decide (n3 < t6)) fun t7 =>
  bif t7 then
    chk (0 ≤ n3 ∧ n3 < (s0.size:Int)) <|
    letk (bt s0 n3) fun t11 =>
    Option.bind (Ref3.isDigit t11) fun t12 =>
    bif t12 then
      letk (IntKind.i64.wrap (n3 + (1:Int))) fun t15 =>
      some (.inl t15)
    else
      some (.inr n3)
  else
    some (.inr n3)
noncomputable def Ref3.digits.l0 (s0:ByteArray) (n3:Int):Option Int:=loopO (fun v:Int=>Ref3.digits.s0 s0 v) n3
theorem Ref3.digits.l0_eq (s0:ByteArray) (n3:Int):Ref3.digits.l0 s0 n3 = (Ref3.digits.s0 s0 n3).bind (Sum.elim (fun v=>Ref3.digits.l0 s0 v) some):=loopO_eq _ _
noncomputable def Ref3.digits (s0:ByteArray):Option Int :=
  Ref3.digits.l0 s0 0
noncomputable def Ref3.IsText.j1 (s0:ByteArray):Option Bool :=
  Option.bind (Ref3.digits s0) fun t57 =>
  letk (t57 == (0:Int)) fun t59 =>
  bif t59 then
    some true
  else
    letk ((s0.size:Int)) fun t63 =>
    letk (t57 == t63) fun t64 =>
    bif t64 then
      some true
    else
      chk (0 ≤ t57 ∧ t57 < (s0.size:Int)) <|
      letk (bt s0 t57) fun t69 =>
      letk (t69 != (32:Int)) fun t70 =>
      some t70
noncomputable def Ref3.IsText.s0 (s0:ByteArray) (i3:Int):Option (Int ⊕ Bool) :=
  letk ((s0.size:Int)) fun t16 =>
  letk (decide (i3 < t16)) fun t17 =>
  bif t17 then
    chk (0 ≤ i3 ∧ i3 < (s0.size:Int)) <|
    letk (bt s0 i3) fun t22 =>
    letk (decide (t22 < (32:Int))) fun t23 =>
    bif t23 then
      some (.inr false)
    else
      chk (0 ≤ i3 ∧ i3 < (s0.size:Int)) <|
      letk (bt s0 i3) fun t27 =>
      letk (decide (t27 > (126:Int))) fun t28 =>
      bif t28 then
        some (.inr false)
      else
        letk (IntKind.i64.wrap (i3 + (1:Int))) fun t19 =>
        some (.inl t19)
  else
    ((
    Option.bind (Ref3.marks s0 0) fun t31 =>
    letk ((s0.size:Int)) fun t34 =>
    chk (0 ≤ t34) <|
    Option.bind (t31[t34.toNat]?) fun t35 =>
    letk (t35 != (0:Int)) fun t37 =>
    bif t37 then
      some false
    else
      Option.bind (Ref3.outside s0 0 59) fun t40 =>
      letk (decide (t40 ≥ (0:Int))) fun t41 =>
      bif t41 then
        some false
      else
        Option.bind (Ref3.outside s0 0 33) fun t45 =>
        letk (decide (t45 ≥ (0:Int))) fun t46 =>
        bif t46 then
          some false
        else
          letk ((s0.size:Int)) fun t51 =>
          letk (IntKind.i64.wrap (t51 - (1:Int))) fun t52 =>
          chk (0 ≤ t52 ∧ t52 < (s0.size:Int)) <|
          letk (bt s0 t52) fun t53 =>
          letk (t53 == (38:Int)) fun t54 =>
          bif t54 then
            some false
          else
            Ref3.IsText.j1 s0)).map .inr
noncomputable def Ref3.IsText.l0 (s0:ByteArray) (i3:Int):Option Bool:=loopO (fun v:Int=>Ref3.IsText.s0 s0 v) i3
theorem Ref3.IsText.l0_eq (s0:ByteArray) (i3:Int):Ref3.IsText.l0 s0 i3 = (Ref3.IsText.s0 s0 i3).bind (Sum.elim (fun v=>Ref3.IsText.l0 s0 v) some):=loopO_eq _ _
noncomputable def Ref3.IsText.j0 (s0:ByteArray):Option Bool :=
  Ref3.IsText.l0 s0 0
noncomputable def Ref3.IsText (s0:ByteArray):Option Bool :=
  letk (s0.toList == (⟨#[]⟩:ByteArray).toList) fun t7 =>
  bif t7 then
    some false
  else
    Option.bind (Ref3.trim s0) fun t10 =>
    letk (!(t10.toList == s0.toList)) fun t12 =>
    bif t12 then
      some false
    else
      Ref3.IsText.j0 s0
noncomputable def Ref3.reader.ends.j0 (r0_0:List api.Line) (r0_1 r0_3 r0_5:Int) (t16:ByteArray) (t33:Bool):Option ((List api.Line) × Int × ByteArray × Int × Bool × Int) :=
  bif t33 then
    some (r0_0,r0_1,t16,r0_3,false,r0_5)
  else
    Option.bind (Ref3.IsText t16) fun t54 =>
    letk (!t54) fun t55 =>
    bif t55 then
      Option.bind (Ref3.reader.wrong r0_0 r0_1 t16 r0_3 false r0_5 r0_3) fun (o_0,o_1,o_2,o_3,o_4,o_5) =>
      some (o_0,o_1,o_2,o_3,o_4,o_5)
    else
      chk ((r0_0.length + ([(⟨r0_1,t16,r0_3⟩:api.Line)]).length) * 32 ≤ 140737488355328) <|
      letk (r0_0 ++ ([(⟨r0_1,t16,r0_3⟩:api.Line)])) fun t30 =>
      some (t30,r0_1,t16,r0_3,false,r0_5)
noncomputable def Ref3.reader.ends (r0_0:List api.Line) (r0_1:Int) (r0_2:ByteArray) (r0_3:Int) (r0_4:Bool) (r0_5:Int):Option ((List api.Line) × Int × ByteArray × Int × Bool × Int) :=
  letk (!r0_4) fun t6 =>
  bif t6 then
    some (r0_0,r0_1,r0_2,r0_3,r0_4,r0_5)
  else
    Option.bind (Ref3.trim r0_2) fun t16 =>
    letk (t16.toList == (⟨#[]⟩:ByteArray).toList) fun t39 =>
    bif t39 then
      letk (r0_1 == (0:Int)) fun t46 =>
      Ref3.reader.ends.j0 r0_0 r0_1 r0_3 r0_5 t16 t46
    else
      Ref3.reader.ends.j0 r0_0 r0_1 r0_3 r0_5 t16 false
end Go.Q
