import Derived.Test.YtemmhailjfdfdaaGreatAG4
import Derived.Test.YtemmhailjfdfdaaGreatFX
namespace Go.Q
open Go
set_option maxRecDepth 10000
set_option maxHeartbeats 2000000
noncomputable instance:Fc api.Array:=⟨fun x k=>api.Array.rec (motive:=fun _=>_) (fun a b c=>Fc.fc a fun a=>Fc.fc b fun b=>Fc.fc c fun c=>k ⟨a,b,c⟩) x,fun x k=>by cases x; simp only [Fc.eq]⟩
noncomputable instance:Fc api.Desc:=⟨fun x k=>api.Desc.rec (motive:=fun _=>_) (fun a b c=>Fc.fc a fun a=>Fc.fc b fun b=>Fc.fc c fun c=>k ⟨a,b,c⟩) x,fun x k=>by cases x; simp only [Fc.eq]⟩
noncomputable instance:Fc api.Value:=⟨fun x k=>api.Value.rec (motive:=fun _=>_) (fun a b=>Fc.fc a fun a=>Fc.fc b fun b=>k ⟨a,b⟩) x,fun x k=>by cases x; simp only [Fc.eq]⟩
noncomputable def Slcs.Clone___int_int_.c (l:List Int):Option (List Int):=chkD (l.length * 8 ≤ 140737488355328) (some l)
theorem Slcs.Clone___int_int_.c_le (l:List Int):Le (Slcs.Clone___int_int_.c l) (Slcs.Clone___int_int_ l):=by
  unfold Slcs.Clone___int_int_.c Slcs.Clone___int_int_
  exact Le.chk (Le.refl _)
noncomputable def Slcs.IndexFunc___int_int_.s0.c (s0:List Int) (t7:Int) (f1:Int → Option Bool) (t8:Int):Option (Int ⊕ Int) :=
 letkF (decide (t8 < t7)) fun t9 =>
 bif t9 then
 chkD (0 ≤ t8) <|
 bindF (s0[t8.toNat]?) fun t14 =>
 bindF (f1 t14) fun t16 =>
 bif t16 then
 some (.inr t8)
 else
 letkF (IntKind.i64.wrap (t8 + (1:Int))) fun t18 =>
 some (.inl t18)
 else
 some (.inr (-1))
theorem Slcs.IndexFunc___int_int_.s0.c_le (s0:List Int) (t7:Int) (f1:Int → Option Bool) (t8:Int) (f1':Int → Option Bool) (hf1:∀ z0,Le (f1 z0) (f1' z0)):Le (Slcs.IndexFunc___int_int_.s0.c s0 t7 f1 t8) (Slcs.IndexFunc___int_int_.s0 s0 t7 f1' t8):=by
  unfold Slcs.IndexFunc___int_int_.s0.c Slcs.IndexFunc___int_int_.s0
  repeat' with_reducible (first | refine Le.letkF (by first | rfl | simp only [Lib.toList_data]) (fun z=>?_) | refine Le.chk ?_ | refine Le.bif ?_ ?_ | refine Le.map ?_ | refine Le.loop (fun s=>?_) | exact hf1 .. | refine Le.bindF ?_ (fun z=>?_) | exact Le.refl _ | (rcases z with ⟨_,_⟩; dsimp only))
noncomputable def Slcs.IndexFunc___int_int_.l0.c (s0:List Int) (t7:Int) (f1:Int → Option Bool) (t8:Int):Option Int:=iterO (fun v:Int=>Slcs.IndexFunc___int_int_.s0.c s0 t7 f1 v) 3000 t8
theorem Slcs.IndexFunc___int_int_.l0.c_le (s0:List Int) (t7:Int) (f1:Int → Option Bool) (t8:Int) (f1':Int → Option Bool) (hf1:∀ z0,Le (f1 z0) (f1' z0)):Le (Slcs.IndexFunc___int_int_.l0.c s0 t7 f1 t8) (Slcs.IndexFunc___int_int_.l0 s0 t7 f1' t8):=by
  unfold Slcs.IndexFunc___int_int_.l0.c Slcs.IndexFunc___int_int_.l0
  repeat' with_reducible (first | refine Le.letkF (by first | rfl | simp only [Lib.toList_data]) (fun z=>?_) | refine Le.chk ?_ | refine Le.bif ?_ ?_ | refine Le.map ?_ | refine Le.loop (fun s=>?_) | refine Slcs.IndexFunc___int_int_.s0.c_le _ _ _ _ _ (fun _=>?_) | exact hf1 .. | refine Le.bindF ?_ (fun z=>?_) | exact Le.refl _ | (rcases z with ⟨_,_⟩; dsimp only))
noncomputable def Slcs.IndexFunc___int_int_.c (s0:List Int) (f1:Int → Option Bool):Option Int :=
 letkF ((s0.length:Int)) fun t7 =>
 Slcs.IndexFunc___int_int_.l0.c s0 t7 f1 0
theorem Slcs.IndexFunc___int_int_.c_le (s0:List Int) (f1:Int → Option Bool) (f1':Int → Option Bool) (hf1:∀ z0,Le (f1 z0) (f1' z0)):Le (Slcs.IndexFunc___int_int_.c s0 f1) (Slcs.IndexFunc___int_int_ s0 f1'):=by
  unfold Slcs.IndexFunc___int_int_.c Slcs.IndexFunc___int_int_
  repeat' with_reducible (first | refine Le.letkF (by first | rfl | simp only [Lib.toList_data]) (fun z=>?_) | refine Le.chk ?_ | refine Le.bif ?_ ?_ | refine Le.map ?_ | refine Le.loop (fun s=>?_) | refine Slcs.IndexFunc___int_int_.l0.c_le _ _ _ _ _ (fun _=>?_) | exact hf1 .. | refine Le.bindF ?_ (fun z=>?_) | exact Le.refl _ | (rcases z with ⟨_,_⟩; dsimp only))
noncomputable def Slcs.ContainsFunc___int_int_.c (s0:List Int) (f1:Int → Option Bool):Option Bool :=
 bindF (Slcs.IndexFunc___int_int_.c s0 f1) fun t7 =>
 letkF (decide (t7 ≥ (0:Int))) fun t8 =>
 some t8
theorem Slcs.ContainsFunc___int_int_.c_le (s0:List Int) (f1:Int → Option Bool) (f1':Int → Option Bool) (hf1:∀ z0,Le (f1 z0) (f1' z0)):Le (Slcs.ContainsFunc___int_int_.c s0 f1) (Slcs.ContainsFunc___int_int_ s0 f1'):=by
  unfold Slcs.ContainsFunc___int_int_.c Slcs.ContainsFunc___int_int_
  repeat' with_reducible (first | refine Le.letkF (by first | rfl | simp only [Lib.toList_data]) (fun z=>?_) | refine Le.chk ?_ | refine Le.bif ?_ ?_ | refine Le.map ?_ | refine Le.loop (fun s=>?_) | refine Slcs.IndexFunc___int_int_.c_le _ _ _ (fun _=>?_) | exact hf1 .. | refine Le.bindF ?_ (fun z=>?_) | exact Le.refl _ | (rcases z with ⟨_,_⟩; dsimp only))
noncomputable def Sec.size_1.c (n0:Int):Option Bool :=
 letkF (decide (n0 < (0:Int))) fun t4 =>
 bif t4 then
 some true
 else
 letkF (decide (n0 > (4000:Int))) fun t7 =>
 some t7
theorem Sec.size_1.c_le (n0:Int):Le (Sec.size_1.c n0) (Sec.size_1 n0):=by
  unfold Sec.size_1.c Sec.size_1
  repeat' with_reducible (first | refine Le.letkF (by first | rfl | simp only [Lib.toList_data]) (fun z=>?_) | refine Le.chk ?_ | refine Le.bif ?_ ?_ | refine Le.map ?_ | refine Le.loop (fun s=>?_) | refine Le.bindF ?_ (fun z=>?_) | exact Le.refl _ | (rcases z with ⟨_,_⟩; dsimp only))
noncomputable def Sec.size.s0.c (extents0:List Int) (t14:Int) (n3:Int) (t15:Int):Option ((Int × Int) ⊕ Int) :=
 letkF (decide (t15 < t14)) fun t16 =>
 bif t16 then
 chkD (0 ≤ t15) <|
 bindF (extents0[t15.toNat]?) fun t17 =>
 letkF (IntKind.i64.wrap (n3 * t17)) fun t21 =>
 letkF (IntKind.i64.wrap (t15 + (1:Int))) fun t22 =>
 some (.inl (t21,t22))
 else
 ((
 letkF (decide (n3 > (4000:Int))) fun t24 =>
 bif t24 then
 some (-1)
 else
 some n3)).map .inr
theorem Sec.size.s0.c_le (extents0:List Int) (t14:Int) (n3:Int) (t15:Int):Le (Sec.size.s0.c extents0 t14 n3 t15) (Sec.size.s0 extents0 t14 n3 t15):=by
  unfold Sec.size.s0.c Sec.size.s0
  repeat' with_reducible (first | refine Le.letkF (by first | rfl | simp only [Lib.toList_data]) (fun z=>?_) | refine Le.chk ?_ | refine Le.bif ?_ ?_ | refine Le.map ?_ | refine Le.loop (fun s=>?_) | refine Le.bindF ?_ (fun z=>?_) | exact Le.refl _ | (rcases z with ⟨_,_⟩; dsimp only))
noncomputable def Sec.size.l0.c (extents0:List Int) (t14:Int) (n3:Int) (t15:Int):Option Int:=iterO (fun v:Int × Int=>Sec.size.s0.c extents0 t14 v.1 v.2) 3000 (n3,t15)
theorem Sec.size.l0.c_le (extents0:List Int) (t14:Int) (n3:Int) (t15:Int):Le (Sec.size.l0.c extents0 t14 n3 t15) (Sec.size.l0 extents0 t14 n3 t15):=by
  unfold Sec.size.l0.c Sec.size.l0
  repeat' with_reducible (first | refine Le.letkF (by first | rfl | simp only [Lib.toList_data]) (fun z=>?_) | refine Le.chk ?_ | refine Le.bif ?_ ?_ | refine Le.map ?_ | refine Le.loop (fun s=>?_) | exact Sec.size.s0.c_le .. | refine Le.bindF ?_ (fun z=>?_) | exact Le.refl _ | (rcases z with ⟨_,_⟩; dsimp only))
noncomputable def Sec.size.j0.c (extents0:List Int):Option Int :=
 letkF ((extents0.length:Int)) fun t14 =>
 Sec.size.l0.c extents0 t14 1 0
theorem Sec.size.j0.c_le (extents0:List Int):Le (Sec.size.j0.c extents0) (Sec.size.j0 extents0):=by
  unfold Sec.size.j0.c Sec.size.j0
  repeat' with_reducible (first | refine Le.letkF (by first | rfl | simp only [Lib.toList_data]) (fun z=>?_) | refine Le.chk ?_ | refine Le.bif ?_ ?_ | refine Le.map ?_ | refine Le.loop (fun s=>?_) | exact Sec.size.l0.c_le .. | refine Le.bindF ?_ (fun z=>?_) | exact Le.refl _ | (rcases z with ⟨_,_⟩; dsimp only))
noncomputable def Sec.size.c (extents0:List Int):Option Int :=
 letkF ((extents0.length:Int)) fun t7 =>
 letkF (decide (t7 > (3:Int))) fun t8 =>
 bif t8 then
 some (-1)
 else
 bindF (Slcs.ContainsFunc___int_int_.c extents0 Sec.size_1.c) fun t11 =>
 bif t11 then
 some (-1)
 else
 Sec.size.j0.c extents0
theorem Sec.size.c_le (extents0:List Int):Le (Sec.size.c extents0) (Sec.size extents0):=by
  unfold Sec.size.c Sec.size
  repeat' with_reducible (first | refine Le.letkF (by first | rfl | simp only [Lib.toList_data]) (fun z=>?_) | refine Le.chk ?_ | refine Le.bif ?_ ?_ | refine Le.map ?_ | refine Le.loop (fun s=>?_) | refine Slcs.ContainsFunc___int_int_.c_le _ _ _ (fun _=>?_) | exact Sec.size_1.c_le .. | exact Sec.size.j0.c_le .. | refine Le.bindF ?_ (fun z=>?_) | exact Le.refl _ | (rcases z with ⟨_,_⟩; dsimp only))
noncomputable def Sec.Whole.s0.c (extents0:List Int) (t16:Int) (t2_0:Int) (t2_1:List Int) (t2_2:List Int) (d4_0:Int) (d4_1:List Int) (d4_2:List Int) (s5:Int) (t17:Int):Option ((Int × (List Int) × (List Int) × Int × (List Int) × (List Int) × Int × Int) ⊕ (api.Desc × Int)) :=
 letkF (decide (t17 < t16)) fun t18 =>
 bif t18 then
 chkD (0 ≤ t17) <|
 bindF (extents0[t17.toNat]?) fun t19 =>
 chkD ((d4_2.length + ([s5]).length) * 8 ≤ 140737488355328) <|
 letkF (d4_2 ++ ([s5])) fun t25 =>
 letkF (IntKind.i64.wrap (s5 * t19)) fun t29 =>
 letkF (IntKind.i64.wrap (t17 + (1:Int))) fun t30 =>
 some (.inl (t2_0,t2_1,t2_2,d4_0,d4_1,t25,t29,t30))
 else
 some (.inr ((⟨d4_0,d4_1,d4_2⟩:api.Desc),0))
theorem Sec.Whole.s0.c_le (extents0:List Int) (t16:Int) (t2_0:Int) (t2_1:List Int) (t2_2:List Int) (d4_0:Int) (d4_1:List Int) (d4_2:List Int) (s5:Int) (t17:Int):Le (Sec.Whole.s0.c extents0 t16 t2_0 t2_1 t2_2 d4_0 d4_1 d4_2 s5 t17) (Sec.Whole.s0 extents0 t16 t2_0 t2_1 t2_2 d4_0 d4_1 d4_2 s5 t17):=by
  unfold Sec.Whole.s0.c Sec.Whole.s0
  repeat' with_reducible (first | refine Le.letkF (by first | rfl | simp only [Lib.toList_data]) (fun z=>?_) | refine Le.chk ?_ | refine Le.bif ?_ ?_ | refine Le.map ?_ | refine Le.loop (fun s=>?_) | refine Le.bindF ?_ (fun z=>?_) | exact Le.refl _ | (rcases z with ⟨_,_⟩; dsimp only))
noncomputable def Sec.Whole.l0.c (extents0:List Int) (t16:Int) (t2_0:Int) (t2_1:List Int) (t2_2:List Int) (d4_0:Int) (d4_1:List Int) (d4_2:List Int) (s5:Int) (t17:Int):Option (api.Desc × Int):=iterO (fun v:Int × (List Int) × (List Int) × Int × (List Int) × (List Int) × Int × Int=>Sec.Whole.s0.c extents0 t16 v.1 v.2.1 v.2.2.1 v.2.2.2.1 v.2.2.2.2.1 v.2.2.2.2.2.1 v.2.2.2.2.2.2.1 v.2.2.2.2.2.2.2) 3000 (t2_0,t2_1,t2_2,d4_0,d4_1,d4_2,s5,t17)
theorem Sec.Whole.l0.c_le (extents0:List Int) (t16:Int) (t2_0:Int) (t2_1:List Int) (t2_2:List Int) (d4_0:Int) (d4_1:List Int) (d4_2:List Int) (s5:Int) (t17:Int):Le (Sec.Whole.l0.c extents0 t16 t2_0 t2_1 t2_2 d4_0 d4_1 d4_2 s5 t17) (Sec.Whole.l0 extents0 t16 t2_0 t2_1 t2_2 d4_0 d4_1 d4_2 s5 t17):=by
  unfold Sec.Whole.l0.c Sec.Whole.l0
  repeat' with_reducible (first | refine Le.letkF (by first | rfl | simp only [Lib.toList_data]) (fun z=>?_) | refine Le.chk ?_ | refine Le.bif ?_ ?_ | refine Le.map ?_ | refine Le.loop (fun s=>?_) | exact Sec.Whole.s0.c_le .. | refine Le.bindF ?_ (fun z=>?_) | exact Le.refl _ | (rcases z with ⟨_,_⟩; dsimp only))
noncomputable def Sec.Whole.c (extents0:List Int):Option (api.Desc × Int) :=
 bindF (Sec.size.c extents0) fun t9 =>
 letkF (decide (t9 < (0:Int))) fun t10 =>
 bif t10 then
 some ((⟨0,[],[]⟩:api.Desc),2)
 else
 bindF (Slcs.Clone___int_int_.c extents0) fun t13 =>
 letkF ((extents0.length:Int)) fun t16 =>
 Sec.Whole.l0.c extents0 t16 0 ([]) ([]) 0 t13 ([]) 1 0
theorem Sec.Whole.c_le (extents0:List Int):Le (Sec.Whole.c extents0) (Sec.Whole extents0):=by
  unfold Sec.Whole.c Sec.Whole
  repeat' with_reducible (first | refine Le.letkF (by first | rfl | simp only [Lib.toList_data]) (fun z=>?_) | refine Le.chk ?_ | refine Le.bif ?_ ?_ | refine Le.map ?_ | refine Le.loop (fun s=>?_) | exact Sec.size.c_le .. | exact Sec.Whole.l0.c_le .. | exact Slcs.Clone___int_int_.c_le .. | refine Le.bindF ?_ (fun z=>?_) | exact Le.refl _ | (rcases z with ⟨_,_⟩; dsimp only))
noncomputable def Sec.isNumber.c (n0:Int):Option Bool :=
 letkF (decide (n0 ≥ ((-2147483648):Int))) fun t4 =>
 bif t4 then
 letkF (decide (n0 ≤ (2147483648:Int))) fun t7 =>
 some t7
 else
 some false
theorem Sec.isNumber.c_le (n0:Int):Le (Sec.isNumber.c n0) (Sec.isNumber n0):=by
  unfold Sec.isNumber.c Sec.isNumber
  repeat' with_reducible (first | refine Le.letkF (by first | rfl | simp only [Lib.toList_data]) (fun z=>?_) | refine Le.chk ?_ | refine Le.bif ?_ ?_ | refine Le.map ?_ | refine Le.loop (fun s=>?_) | refine Le.bindF ?_ (fun z=>?_) | exact Le.refl _ | (rcases z with ⟨_,_⟩; dsimp only))
noncomputable def Sec.Valid_1.c (s0:Int):Option Bool :=
 bindF (Sec.isNumber.c s0) fun t4 =>
 letkF (!t4) fun t5 =>
 some t5
theorem Sec.Valid_1.c_le (s0:Int):Le (Sec.Valid_1.c s0) (Sec.Valid_1 s0):=by
  unfold Sec.Valid_1.c Sec.Valid_1
  repeat' with_reducible (first | refine Le.letkF (by first | rfl | simp only [Lib.toList_data]) (fun z=>?_) | refine Le.chk ?_ | refine Le.bif ?_ ?_ | refine Le.map ?_ | refine Le.loop (fun s=>?_) | exact Sec.isNumber.c_le .. | refine Le.bindF ?_ (fun z=>?_) | exact Le.refl _ | (rcases z with ⟨_,_⟩; dsimp only))
noncomputable def Sec.ends.s0.c (d0:api.Desc) (t13:Int) (d1_0:Int) (d1_1:List Int) (d1_2:List Int) (least2:Int) (greatest3:Int) (t14:Int):Option ((Int × (List Int) × (List Int) × Int × Int × Int) ⊕ (Int × Int)) :=
 letkF (decide (t14 < t13)) fun t15 =>
 bif t15 then
 chkD (0 ≤ t14) <|
 bindF (d0.Strides[t14.toNat]?) fun t17 =>
 chkD (0 ≤ t14) <|
 bindF (d1_1[t14.toNat]?) fun t23 =>
 letkF (IntKind.i64.wrap (t23 - (1:Int))) fun t25 =>
 letkF (IntKind.i64.wrap (t17 * t25)) fun t26 =>
 letkF (if 0 < t26 then 0 else t26) fun t29 =>
 letkF (IntKind.i64.wrap (least2 + t29)) fun t30 =>
 letkF (if 0 > t26 then 0 else t26) fun t33 =>
 letkF (IntKind.i64.wrap (greatest3 + t33)) fun t34 =>
 letkF (IntKind.i64.wrap (t14 + (1:Int))) fun t35 =>
 some (.inl (d1_0,d1_1,d1_2,t30,t34,t35))
 else
 some (.inr (least2,greatest3))
theorem Sec.ends.s0.c_le (d0:api.Desc) (t13:Int) (d1_0:Int) (d1_1:List Int) (d1_2:List Int) (least2:Int) (greatest3:Int) (t14:Int):Le (Sec.ends.s0.c d0 t13 d1_0 d1_1 d1_2 least2 greatest3 t14) (Sec.ends.s0 d0 t13 d1_0 d1_1 d1_2 least2 greatest3 t14):=by
  unfold Sec.ends.s0.c Sec.ends.s0
  repeat' with_reducible (first | refine Le.letkF (by first | rfl | simp only [Lib.toList_data]) (fun z=>?_) | refine Le.chk ?_ | refine Le.bif ?_ ?_ | refine Le.map ?_ | refine Le.loop (fun s=>?_) | refine Le.bindF ?_ (fun z=>?_) | exact Le.refl _ | (rcases z with ⟨_,_⟩; dsimp only))
noncomputable def Sec.ends.l0.c (d0:api.Desc) (t13:Int) (d1_0:Int) (d1_1:List Int) (d1_2:List Int) (least2:Int) (greatest3:Int) (t14:Int):Option (Int × Int):=iterO (fun v:Int × (List Int) × (List Int) × Int × Int × Int=>Sec.ends.s0.c d0 t13 v.1 v.2.1 v.2.2.1 v.2.2.2.1 v.2.2.2.2.1 v.2.2.2.2.2) 3000 (d1_0,d1_1,d1_2,least2,greatest3,t14)
theorem Sec.ends.l0.c_le (d0:api.Desc) (t13:Int) (d1_0:Int) (d1_1:List Int) (d1_2:List Int) (least2:Int) (greatest3:Int) (t14:Int):Le (Sec.ends.l0.c d0 t13 d1_0 d1_1 d1_2 least2 greatest3 t14) (Sec.ends.l0 d0 t13 d1_0 d1_1 d1_2 least2 greatest3 t14):=by
  unfold Sec.ends.l0.c Sec.ends.l0
  repeat' with_reducible (first | refine Le.letkF (by first | rfl | simp only [Lib.toList_data]) (fun z=>?_) | refine Le.chk ?_ | refine Le.bif ?_ ?_ | refine Le.map ?_ | refine Le.loop (fun s=>?_) | exact Sec.ends.s0.c_le .. | refine Le.bindF ?_ (fun z=>?_) | exact Le.refl _ | (rcases z with ⟨_,_⟩; dsimp only))
noncomputable def Sec.ends.c (d0:api.Desc):Option (Int × Int) :=
 letkF ((d0.Strides.length:Int)) fun t13 =>
 Sec.ends.l0.c d0 t13 d0.Base d0.Extents d0.Strides d0.Base d0.Base 0
theorem Sec.ends.c_le (d0:api.Desc):Le (Sec.ends.c d0) (Sec.ends d0):=by
  unfold Sec.ends.c Sec.ends
  repeat' with_reducible (first | refine Le.letkF (by first | rfl | simp only [Lib.toList_data]) (fun z=>?_) | refine Le.chk ?_ | refine Le.bif ?_ ?_ | refine Le.map ?_ | refine Le.loop (fun s=>?_) | exact Sec.ends.l0.c_le .. | refine Le.bindF ?_ (fun z=>?_) | exact Le.refl _ | (rcases z with ⟨_,_⟩; dsimp only))
noncomputable def Sec.Valid.j0.c (t8:Int) (d1_0:Int) (d1_1:List Int) (d1_2:List Int):Option Bool :=
 letkF (t8 == (0:Int)) fun t31 =>
 bif t31 then
 some true
 else
 letkF (decide (d1_0 > (2147483648:Int))) fun t34 =>
 bif t34 then
 some false
 else
 bindF (Sec.ends.c (⟨d1_0,d1_1,d1_2⟩:api.Desc)) fun (t37_0,t37_1) =>
 letkF (decide (t37_0 ≥ (0:Int))) fun t41 =>
 bif t41 then
 letkF (decide (t37_1 ≤ (2147483648:Int))) fun t44 =>
 some t44
 else
 some false
theorem Sec.Valid.j0.c_le (t8:Int) (d1_0:Int) (d1_1:List Int) (d1_2:List Int):Le (Sec.Valid.j0.c t8 d1_0 d1_1 d1_2) (Sec.Valid.j0 t8 d1_0 d1_1 d1_2):=by
  unfold Sec.Valid.j0.c Sec.Valid.j0
  repeat' with_reducible (first | refine Le.letkF (by first | rfl | simp only [Lib.toList_data]) (fun z=>?_) | refine Le.chk ?_ | refine Le.bif ?_ ?_ | refine Le.map ?_ | refine Le.loop (fun s=>?_) | exact Sec.ends.c_le .. | refine Le.bindF ?_ (fun z=>?_) | exact Le.refl _ | (rcases z with ⟨_,_⟩; dsimp only))
noncomputable def Sec.Valid.c (d0:api.Desc):Option Bool :=
 bindF (Sec.size.c d0.Extents) fun t8 =>
 letkF (decide (t8 < (0:Int))) fun t10 =>
 bif t10 then
 some false
 else
 letkF ((d0.Strides.length:Int)) fun t14 =>
 letkF ((d0.Extents.length:Int)) fun t17 =>
 letkF (t14 != t17) fun t18 =>
 bif t18 then
 some false
 else
 letkF (decide (d0.Base < (0:Int))) fun t23 =>
 bif t23 then
 some false
 else
 bindF (Slcs.ContainsFunc___int_int_.c d0.Strides Sec.Valid_1.c) fun t28 =>
 bif t28 then
 some false
 else
 Sec.Valid.j0.c t8 d0.Base d0.Extents d0.Strides
theorem Sec.Valid.c_le (d0:api.Desc):Le (Sec.Valid.c d0) (Sec.Valid d0):=by
  unfold Sec.Valid.c Sec.Valid
  repeat' with_reducible (first | refine Le.letkF (by first | rfl | simp only [Lib.toList_data]) (fun z=>?_) | refine Le.chk ?_ | refine Le.bif ?_ ?_ | refine Le.map ?_ | refine Le.loop (fun s=>?_) | refine Slcs.ContainsFunc___int_int_.c_le _ _ _ (fun _=>?_) | exact Sec.size.c_le .. | exact Sec.Valid_1.c_le .. | exact Sec.Valid.j0.c_le .. | refine Le.bindF ?_ (fun z=>?_) | exact Le.refl _ | (rcases z with ⟨_,_⟩; dsimp only))
noncomputable def Sec.Size.c (d0:api.Desc):Option (Int × Int) :=
 bindF (Sec.Valid.c (⟨d0.Base,d0.Extents,d0.Strides⟩:api.Desc)) fun t5 =>
 letkF (!t5) fun t6 =>
 bif t6 then
 some (0,2)
 else
 bindF (Sec.size.c d0.Extents) fun t9 =>
 some (t9,0)
theorem Sec.Size.c_le (d0:api.Desc):Le (Sec.Size.c d0) (Sec.Size d0):=by
  unfold Sec.Size.c Sec.Size
  repeat' with_reducible (first | refine Le.letkF (by first | rfl | simp only [Lib.toList_data]) (fun z=>?_) | refine Le.chk ?_ | refine Le.bif ?_ ?_ | refine Le.map ?_ | refine Le.loop (fun s=>?_) | exact Sec.size.c_le .. | exact Sec.Valid.c_le .. | refine Le.bindF ?_ (fun z=>?_) | exact Le.refl _ | (rcases z with ⟨_,_⟩; dsimp only))
noncomputable def Arr.size.c (shape0:List Int):Option Int :=
 bindF (Sec.Whole.c shape0) fun (t9_0,t9_1) =>
 letkF (t9_1 != (0:Int)) fun t13 =>
 bif t13 then
 some (-1)
 else
 bindF (Sec.Size.c (⟨t9_0.Base,t9_0.Extents,t9_0.Strides⟩:api.Desc)) fun (t16_0,t16_1) =>
 some t16_0
theorem Arr.size.c_le (shape0:List Int):Le (Arr.size.c shape0) (Arr.size shape0):=by
  unfold Arr.size.c Arr.size
  repeat' with_reducible (first | refine Le.letkF (by first | rfl | simp only [Lib.toList_data]) (fun z=>?_) | refine Le.chk ?_ | refine Le.bif ?_ ?_ | refine Le.map ?_ | refine Le.loop (fun s=>?_) | exact Sec.Whole.c_le .. | exact Sec.Size.c_le .. | refine Le.bindF ?_ (fun z=>?_) | exact Le.refl _ | (rcases z with ⟨_,_⟩; dsimp only))
noncomputable def Arr.bytes.c (kind0:Int):Option Int :=
 letkF (kind0 == (3:Int)) fun t5 =>
 bif t5 then
 some 4
 else
 letkF (kind0 == (4:Int)) fun t7 =>
 bif t7 then
 some 8
 else
 some 0
theorem Arr.bytes.c_le (kind0:Int):Le (Arr.bytes.c kind0) (Arr.bytes kind0):=by
  unfold Arr.bytes.c Arr.bytes
  repeat' with_reducible (first | refine Le.letkF (by first | rfl | simp only [Lib.toList_data]) (fun z=>?_) | refine Le.chk ?_ | refine Le.bif ?_ ?_ | refine Le.map ?_ | refine Le.loop (fun s=>?_) | refine Le.bindF ?_ (fun z=>?_) | exact Le.refl _ | (rcases z with ⟨_,_⟩; dsimp only))
noncomputable def Flt.Valid.c (kind0:Int) (a1:Int):Option Bool:=none
theorem Flt.Valid.c_le (kind0:Int) (a1:Int):Le (Flt.Valid.c kind0 a1) (Flt.Valid kind0 a1):=Le.none _
noncomputable def Arr.fits.j0.c (kind0:Int) (n1:Int) (t22:Bool):Option Bool :=
 bif t22 then
 bindF (Arr.bytes.c kind0) fun t26 =>
 bindF (Flt.Valid.c t26 n1) fun t28 =>
 some t28
 else
 some false
theorem Arr.fits.j0.c_le (kind0:Int) (n1:Int) (t22:Bool):Le (Arr.fits.j0.c kind0 n1 t22) (Arr.fits.j0 kind0 n1 t22):=by
  unfold Arr.fits.j0.c Arr.fits.j0
  repeat' with_reducible (first | refine Le.letkF (by first | rfl | simp only [Lib.toList_data]) (fun z=>?_) | refine Le.chk ?_ | refine Le.bif ?_ ?_ | refine Le.map ?_ | refine Le.loop (fun s=>?_) | exact Arr.bytes.c_le .. | exact Flt.Valid.c_le .. | refine Le.bindF ?_ (fun z=>?_) | exact Le.refl _ | (rcases z with ⟨_,_⟩; dsimp only))
noncomputable def Arr.fits.c (kind0:Int) (n1:Int):Option Bool :=
 letkF (kind0 == (1:Int)) fun t7 =>
 bif t7 then
 letkF (decide (n1 ≥ ((-2147483647):Int))) fun t9 =>
 bif t9 then
 letkF (decide (n1 ≤ (2147483647:Int))) fun t12 =>
 some t12
 else
 some false
 else
 letkF (kind0 == (2:Int)) fun t15 =>
 bif t15 then
 letkF (n1 == (0:Int)) fun t17 =>
 bif t17 then
 some true
 else
 letkF (n1 == (1:Int)) fun t20 =>
 some t20
 else
 letkF (kind0 == (3:Int)) fun t23 =>
 bif t23 then
 Arr.fits.j0.c kind0 n1 true
 else
 letkF (kind0 == (4:Int)) fun t24 =>
 Arr.fits.j0.c kind0 n1 t24
theorem Arr.fits.c_le (kind0:Int) (n1:Int):Le (Arr.fits.c kind0 n1) (Arr.fits kind0 n1):=by
  unfold Arr.fits.c Arr.fits
  repeat' with_reducible (first | refine Le.letkF (by first | rfl | simp only [Lib.toList_data]) (fun z=>?_) | refine Le.chk ?_ | refine Le.bif ?_ ?_ | refine Le.map ?_ | refine Le.loop (fun s=>?_) | exact Arr.fits.j0.c_le .. | refine Le.bindF ?_ (fun z=>?_) | exact Le.refl _ | (rcases z with ⟨_,_⟩; dsimp only))
noncomputable def Arr.Valid_1.c (n0:Int) (t1:api.Array):Option Bool :=
 bindF (Arr.fits.c t1.Kind n0) fun t7 =>
 letkF (!t7) fun t8 =>
 some t8
theorem Arr.Valid_1.c_le (n0:Int) (t1:api.Array):Le (Arr.Valid_1.c n0 t1) (Arr.Valid_1 n0 t1):=by
  unfold Arr.Valid_1.c Arr.Valid_1
  repeat' with_reducible (first | refine Le.letkF (by first | rfl | simp only [Lib.toList_data]) (fun z=>?_) | refine Le.chk ?_ | refine Le.bif ?_ ?_ | refine Le.map ?_ | refine Le.loop (fun s=>?_) | exact Arr.fits.c_le .. | refine Le.bindF ?_ (fun z=>?_) | exact Le.refl _ | (rcases z with ⟨_,_⟩; dsimp only))
noncomputable def Arr.Valid.c (a0:api.Array):Option Bool :=
 letkF (decide (a0.Kind ≥ (1:Int))) fun t5 =>
 bif t5 then
 letkF (decide (a0.Kind ≤ (4:Int))) fun t9 =>
 bif t9 then
 bindF (Arr.size.c a0.Shape) fun t14 =>
 letkF ((a0.Elems.length:Int)) fun t17 =>
 letkF (t14 == t17) fun t18 =>
 bif t18 then
 bindF (Slcs.ContainsFunc___int_int_.c a0.Elems (fun z0_=>Arr.Valid_1.c z0_ (⟨a0.Kind,a0.Shape,a0.Elems⟩:api.Array))) fun t24 =>
 letkF (!t24) fun t25 =>
 some t25
 else
 some false
 else
 some false
 else
 some false
theorem Arr.Valid.c_le (a0:api.Array):Le (Arr.Valid.c a0) (Arr.Valid a0):=by
  unfold Arr.Valid.c Arr.Valid
  repeat' with_reducible (first | refine Le.letkF (by first | rfl | simp only [Lib.toList_data]) (fun z=>?_) | refine Le.chk ?_ | refine Le.bif ?_ ?_ | refine Le.map ?_ | refine Le.loop (fun s=>?_) | refine Slcs.ContainsFunc___int_int_.c_le _ _ _ (fun _=>?_) | exact Arr.size.c_le .. | exact Arr.Valid_1.c_le .. | refine Le.bindF ?_ (fun z=>?_) | exact Le.refl _ | (rcases z with ⟨_,_⟩; dsimp only))
noncomputable def Arr.Names.c :Option ((List ByteArray)) :=
 some ([⟨#[97,98,115]⟩,⟨#[97,108,108]⟩,⟨#[97,110,121]⟩,⟨#[99,111,117,110,116]⟩,⟨#[99,115,104,105,102,116]⟩,⟨#[100,98,108,101]⟩,⟨#[105,110,116]⟩,⟨#[109,97,116,109,117,108]⟩,⟨#[109,97,120]⟩,⟨#[109,97,120,108,111,99]⟩,⟨#[109,97,120,118,97,108]⟩,⟨#[109,101,114,103,101]⟩,⟨#[109,105,110]⟩,⟨#[109,105,110,108,111,99]⟩,⟨#[109,105,110,118,97,108]⟩,⟨#[109,111,100]⟩,⟨#[112,97,99,107]⟩,⟨#[112,114,111,100,117,99,116]⟩,⟨#[114,101,97,108]⟩,⟨#[114,101,115,104,97,112,101]⟩,⟨#[115,104,97,112,101]⟩,⟨#[115,105,122,101]⟩,⟨#[115,112,114,101,97,100]⟩,⟨#[115,113,114,116]⟩,⟨#[115,117,109]⟩,⟨#[116,114,97,110,115,112,111,115,101]⟩])
theorem Arr.Names.c_le:Le (Arr.Names.c) (Arr.Names):=by
  unfold Arr.Names.c Arr.Names
  repeat' with_reducible (first | refine Le.letkF (by first | rfl | simp only [Lib.toList_data]) (fun z=>?_) | refine Le.chk ?_ | refine Le.bif ?_ ?_ | refine Le.map ?_ | refine Le.loop (fun s=>?_) | refine Le.bindF ?_ (fun z=>?_) | exact Le.refl _ | (rcases z with ⟨_,_⟩; dsimp only))
noncomputable def Slcs.Index___string_string_.s0.c (s0:List ByteArray) (v1:ByteArray) (t7:Int) (t8:Int):Option (Int ⊕ Int) :=
 letkF (decide (t8 < t7)) fun t9 =>
 bif t9 then
 chkD (0 ≤ t8) <|
 bindF (s0[t8.toNat]?) fun t14 =>
 letkF (v1.data.toList == t14.data.toList) fun t16 =>
 bif t16 then
 some (.inr t8)
 else
 letkF (IntKind.i64.wrap (t8 + (1:Int))) fun t18 =>
 some (.inl t18)
 else
 some (.inr (-1))
theorem Slcs.Index___string_string_.s0.c_le (s0:List ByteArray) (v1:ByteArray) (t7:Int) (t8:Int):Le (Slcs.Index___string_string_.s0.c s0 v1 t7 t8) (Slcs.Index___string_string_.s0 s0 v1 t7 t8):=by
  unfold Slcs.Index___string_string_.s0.c Slcs.Index___string_string_.s0
  repeat' with_reducible (first | refine Le.letkF (by first | rfl | simp only [Lib.toList_data]) (fun z=>?_) | refine Le.chk ?_ | refine Le.bif ?_ ?_ | refine Le.map ?_ | refine Le.loop (fun s=>?_) | refine Le.bindF ?_ (fun z=>?_) | exact Le.refl _ | (rcases z with ⟨_,_⟩; dsimp only))
noncomputable def Slcs.Index___string_string_.l0.c (s0:List ByteArray) (v1:ByteArray) (t7:Int) (t8:Int):Option Int:=iterO (fun v:Int=>Slcs.Index___string_string_.s0.c s0 v1 t7 v) 3000 t8
theorem Slcs.Index___string_string_.l0.c_le (s0:List ByteArray) (v1:ByteArray) (t7:Int) (t8:Int):Le (Slcs.Index___string_string_.l0.c s0 v1 t7 t8) (Slcs.Index___string_string_.l0 s0 v1 t7 t8):=by
  unfold Slcs.Index___string_string_.l0.c Slcs.Index___string_string_.l0
  repeat' with_reducible (first | refine Le.letkF (by first | rfl | simp only [Lib.toList_data]) (fun z=>?_) | refine Le.chk ?_ | refine Le.bif ?_ ?_ | refine Le.map ?_ | refine Le.loop (fun s=>?_) | exact Slcs.Index___string_string_.s0.c_le .. | refine Le.bindF ?_ (fun z=>?_) | exact Le.refl _ | (rcases z with ⟨_,_⟩; dsimp only))
noncomputable def Slcs.Index___string_string_.c (s0:List ByteArray) (v1:ByteArray):Option Int :=
 letkF ((s0.length:Int)) fun t7 =>
 Slcs.Index___string_string_.l0.c s0 v1 t7 0
theorem Slcs.Index___string_string_.c_le (s0:List ByteArray) (v1:ByteArray):Le (Slcs.Index___string_string_.c s0 v1) (Slcs.Index___string_string_ s0 v1):=by
  unfold Slcs.Index___string_string_.c Slcs.Index___string_string_
  repeat' with_reducible (first | refine Le.letkF (by first | rfl | simp only [Lib.toList_data]) (fun z=>?_) | refine Le.chk ?_ | refine Le.bif ?_ ?_ | refine Le.map ?_ | refine Le.loop (fun s=>?_) | exact Slcs.Index___string_string_.l0.c_le .. | refine Le.bindF ?_ (fun z=>?_) | exact Le.refl _ | (rcases z with ⟨_,_⟩; dsimp only))
noncomputable def Slcs.Contains___string_string_.c (s0:List ByteArray) (v1:ByteArray):Option Bool :=
 bindF (Slcs.Index___string_string_.c s0 v1) fun t7 =>
 letkF (decide (t7 ≥ (0:Int))) fun t8 =>
 some t8
theorem Slcs.Contains___string_string_.c_le (s0:List ByteArray) (v1:ByteArray):Le (Slcs.Contains___string_string_.c s0 v1) (Slcs.Contains___string_string_ s0 v1):=by
  unfold Slcs.Contains___string_string_.c Slcs.Contains___string_string_
  repeat' with_reducible (first | refine Le.letkF (by first | rfl | simp only [Lib.toList_data]) (fun z=>?_) | refine Le.chk ?_ | refine Le.bif ?_ ?_ | refine Le.map ?_ | refine Le.loop (fun s=>?_) | exact Slcs.Index___string_string_.c_le .. | refine Le.bindF ?_ (fun z=>?_) | exact Le.refl _ | (rcases z with ⟨_,_⟩; dsimp only))
noncomputable def Arr.Arity.j0.c (name0:ByteArray):Option (Int × Int) :=
 bindF (Arr.Names.c) fun t16 =>
 bindF (Slcs.Contains___string_string_.c t16 name0) fun t18 =>
 bif t18 then
 some (1,1)
 else
 some (0,0)
theorem Arr.Arity.j0.c_le (name0:ByteArray):Le (Arr.Arity.j0.c name0) (Arr.Arity.j0 name0):=by
  unfold Arr.Arity.j0.c Arr.Arity.j0
  repeat' with_reducible (first | refine Le.letkF (by first | rfl | simp only [Lib.toList_data]) (fun z=>?_) | refine Le.chk ?_ | refine Le.bif ?_ ?_ | refine Le.map ?_ | refine Le.loop (fun s=>?_) | exact Arr.Names.c_le .. | exact Slcs.Contains___string_string_.c_le .. | refine Le.bindF ?_ (fun z=>?_) | exact Le.refl _ | (rcases z with ⟨_,_⟩; dsimp only))
noncomputable def Arr.Arity.j1.c (name0:ByteArray) (t5:Bool):Option (Int × Int) :=
 bif t5 then
 some (2,2)
 else
 letkF (name0.data.toList == (⟨#[109,101,114,103,101]⟩:ByteArray).data.toList) fun t15 =>
 bif t15 then
 some (3,3)
 else
 Arr.Arity.j0.c name0
theorem Arr.Arity.j1.c_le (name0:ByteArray) (t5:Bool):Le (Arr.Arity.j1.c name0 t5) (Arr.Arity.j1 name0 t5):=by
  unfold Arr.Arity.j1.c Arr.Arity.j1
  repeat' with_reducible (first | refine Le.letkF (by first | rfl | simp only [Lib.toList_data]) (fun z=>?_) | refine Le.chk ?_ | refine Le.bif ?_ ?_ | refine Le.map ?_ | refine Le.loop (fun s=>?_) | exact Arr.Arity.j0.c_le .. | refine Le.bindF ?_ (fun z=>?_) | exact Le.refl _ | (rcases z with ⟨_,_⟩; dsimp only))
noncomputable def Arr.Arity.c (name0:ByteArray):Option (Int × Int) :=
 letkF (name0.data.toList == (⟨#[109,97,120]⟩:ByteArray).data.toList) fun t6 =>
 bif t6 then
 Arr.Arity.j1.c name0 true
 else
 letkF (name0.data.toList == (⟨#[109,105,110]⟩:ByteArray).data.toList) fun t7 =>
 bif t7 then
 Arr.Arity.j1.c name0 true
 else
 letkF (name0.data.toList == (⟨#[109,111,100]⟩:ByteArray).data.toList) fun t8 =>
 bif t8 then
 Arr.Arity.j1.c name0 true
 else
 letkF (name0.data.toList == (⟨#[99,115,104,105,102,116]⟩:ByteArray).data.toList) fun t9 =>
 bif t9 then
 Arr.Arity.j1.c name0 true
 else
 letkF (name0.data.toList == (⟨#[109,97,116,109,117,108]⟩:ByteArray).data.toList) fun t10 =>
 bif t10 then
 Arr.Arity.j1.c name0 true
 else
 letkF (name0.data.toList == (⟨#[112,97,99,107]⟩:ByteArray).data.toList) fun t11 =>
 bif t11 then
 Arr.Arity.j1.c name0 true
 else
 letkF (name0.data.toList == (⟨#[114,101,115,104,97,112,101]⟩:ByteArray).data.toList) fun t12 =>
 bif t12 then
 Arr.Arity.j1.c name0 true
 else
 letkF (name0.data.toList == (⟨#[115,112,114,101,97,100]⟩:ByteArray).data.toList) fun t13 =>
 Arr.Arity.j1.c name0 t13
theorem Arr.Arity.c_le (name0:ByteArray):Le (Arr.Arity.c name0) (Arr.Arity name0):=by
  unfold Arr.Arity.c Arr.Arity
  repeat' with_reducible (first | refine Le.letkF (by first | rfl | simp only [Lib.toList_data]) (fun z=>?_) | refine Le.chk ?_ | refine Le.bif ?_ ?_ | refine Le.map ?_ | refine Le.loop (fun s=>?_) | exact Arr.Arity.j1.c_le .. | refine Le.bindF ?_ (fun z=>?_) | exact Le.refl _ | (rcases z with ⟨_,_⟩; dsimp only))
noncomputable def Slcs.IndexFunc___quadrat_api.Array_quadrat_api.Array_.s0.c (s0:List api.Array) (t7:Int) (f1:api.Array → Option Bool) (t8:Int):Option (Int ⊕ Int) :=
 letkF (decide (t8 < t7)) fun t9 =>
 bif t9 then
 chkD (0 ≤ t8) <|
 bindF (s0[t8.toNat]?) fun t14 =>
 bindF (f1 t14) fun t16 =>
 bif t16 then
 some (.inr t8)
 else
 letkF (IntKind.i64.wrap (t8 + (1:Int))) fun t18 =>
 some (.inl t18)
 else
 some (.inr (-1))
theorem Slcs.IndexFunc___quadrat_api.Array_quadrat_api.Array_.s0.c_le (s0:List api.Array) (t7:Int) (f1:api.Array → Option Bool) (t8:Int) (f1':api.Array → Option Bool) (hf1:∀ z0,Le (f1 z0) (f1' z0)):Le (Slcs.IndexFunc___quadrat_api.Array_quadrat_api.Array_.s0.c s0 t7 f1 t8) (Slcs.IndexFunc___quadrat_api.Array_quadrat_api.Array_.s0 s0 t7 f1' t8):=by
  unfold Slcs.IndexFunc___quadrat_api.Array_quadrat_api.Array_.s0.c Slcs.IndexFunc___quadrat_api.Array_quadrat_api.Array_.s0
  repeat' with_reducible (first | refine Le.letkF (by first | rfl | simp only [Lib.toList_data]) (fun z=>?_) | refine Le.chk ?_ | refine Le.bif ?_ ?_ | refine Le.map ?_ | refine Le.loop (fun s=>?_) | exact hf1 .. | refine Le.bindF ?_ (fun z=>?_) | exact Le.refl _ | (rcases z with ⟨_,_⟩; dsimp only))
noncomputable def Slcs.IndexFunc___quadrat_api.Array_quadrat_api.Array_.l0.c (s0:List api.Array) (t7:Int) (f1:api.Array → Option Bool) (t8:Int):Option Int:=iterO (fun v:Int=>Slcs.IndexFunc___quadrat_api.Array_quadrat_api.Array_.s0.c s0 t7 f1 v) 3000 t8
theorem Slcs.IndexFunc___quadrat_api.Array_quadrat_api.Array_.l0.c_le (s0:List api.Array) (t7:Int) (f1:api.Array → Option Bool) (t8:Int) (f1':api.Array → Option Bool) (hf1:∀ z0,Le (f1 z0) (f1' z0)):Le (Slcs.IndexFunc___quadrat_api.Array_quadrat_api.Array_.l0.c s0 t7 f1 t8) (Slcs.IndexFunc___quadrat_api.Array_quadrat_api.Array_.l0 s0 t7 f1' t8):=by
  unfold Slcs.IndexFunc___quadrat_api.Array_quadrat_api.Array_.l0.c Slcs.IndexFunc___quadrat_api.Array_quadrat_api.Array_.l0
  repeat' with_reducible (first | refine Le.letkF (by first | rfl | simp only [Lib.toList_data]) (fun z=>?_) | refine Le.chk ?_ | refine Le.bif ?_ ?_ | refine Le.map ?_ | refine Le.loop (fun s=>?_) | refine Slcs.IndexFunc___quadrat_api.Array_quadrat_api.Array_.s0.c_le _ _ _ _ _ (fun _=>?_) | exact hf1 .. | refine Le.bindF ?_ (fun z=>?_) | exact Le.refl _ | (rcases z with ⟨_,_⟩; dsimp only))
noncomputable def Slcs.IndexFunc___quadrat_api.Array_quadrat_api.Array_.c (s0:List api.Array) (f1:api.Array → Option Bool):Option Int :=
 letkF ((s0.length:Int)) fun t7 =>
 Slcs.IndexFunc___quadrat_api.Array_quadrat_api.Array_.l0.c s0 t7 f1 0
theorem Slcs.IndexFunc___quadrat_api.Array_quadrat_api.Array_.c_le (s0:List api.Array) (f1:api.Array → Option Bool) (f1':api.Array → Option Bool) (hf1:∀ z0,Le (f1 z0) (f1' z0)):Le (Slcs.IndexFunc___quadrat_api.Array_quadrat_api.Array_.c s0 f1) (Slcs.IndexFunc___quadrat_api.Array_quadrat_api.Array_ s0 f1'):=by
  unfold Slcs.IndexFunc___quadrat_api.Array_quadrat_api.Array_.c Slcs.IndexFunc___quadrat_api.Array_quadrat_api.Array_
  repeat' with_reducible (first | refine Le.letkF (by first | rfl | simp only [Lib.toList_data]) (fun z=>?_) | refine Le.chk ?_ | refine Le.bif ?_ ?_ | refine Le.map ?_ | refine Le.loop (fun s=>?_) | refine Slcs.IndexFunc___quadrat_api.Array_quadrat_api.Array_.l0.c_le _ _ _ _ _ (fun _=>?_) | exact hf1 .. | refine Le.bindF ?_ (fun z=>?_) | exact Le.refl _ | (rcases z with ⟨_,_⟩; dsimp only))
noncomputable def Slcs.ContainsFunc___quadrat_api.Array_quadrat_api.Array_.c (s0:List api.Array) (f1:api.Array → Option Bool):Option Bool :=
 bindF (Slcs.IndexFunc___quadrat_api.Array_quadrat_api.Array_.c s0 f1) fun t7 =>
 letkF (decide (t7 ≥ (0:Int))) fun t8 =>
 some t8
theorem Slcs.ContainsFunc___quadrat_api.Array_quadrat_api.Array_.c_le (s0:List api.Array) (f1:api.Array → Option Bool) (f1':api.Array → Option Bool) (hf1:∀ z0,Le (f1 z0) (f1' z0)):Le (Slcs.ContainsFunc___quadrat_api.Array_quadrat_api.Array_.c s0 f1) (Slcs.ContainsFunc___quadrat_api.Array_quadrat_api.Array_ s0 f1'):=by
  unfold Slcs.ContainsFunc___quadrat_api.Array_quadrat_api.Array_.c Slcs.ContainsFunc___quadrat_api.Array_quadrat_api.Array_
  repeat' with_reducible (first | refine Le.letkF (by first | rfl | simp only [Lib.toList_data]) (fun z=>?_) | refine Le.chk ?_ | refine Le.bif ?_ ?_ | refine Le.map ?_ | refine Le.loop (fun s=>?_) | refine Slcs.IndexFunc___quadrat_api.Array_quadrat_api.Array_.c_le _ _ _ (fun _=>?_) | exact hf1 .. | refine Le.bindF ?_ (fun z=>?_) | exact Le.refl _ | (rcases z with ⟨_,_⟩; dsimp only))
noncomputable def Arr.Call_1.c (a0:api.Array):Option Bool :=
 bindF (Arr.Valid.c (⟨a0.Kind,a0.Shape,a0.Elems⟩:api.Array)) fun t4 =>
 letkF (!t4) fun t5 =>
 some t5
theorem Arr.Call_1.c_le (a0:api.Array):Le (Arr.Call_1.c a0) (Arr.Call_1 a0):=by
  unfold Arr.Call_1.c Arr.Call_1
  repeat' with_reducible (first | refine Le.letkF (by first | rfl | simp only [Lib.toList_data]) (fun z=>?_) | refine Le.chk ?_ | refine Le.bif ?_ ?_ | refine Le.map ?_ | refine Le.loop (fun s=>?_) | exact Arr.Valid.c_le .. | refine Le.bindF ?_ (fun z=>?_) | exact Le.refl _ | (rcases z with ⟨_,_⟩; dsimp only))
noncomputable def Arr.isNumber.c (kind0:Int):Option Bool :=
 letkF (kind0 == (1:Int)) fun t4 =>
 bif t4 then
 some true
 else
 bindF (Arr.bytes.c kind0) fun t7 =>
 letkF (decide (t7 > (0:Int))) fun t8 =>
 some t8
theorem Arr.isNumber.c_le (kind0:Int):Le (Arr.isNumber.c kind0) (Arr.isNumber kind0):=by
  unfold Arr.isNumber.c Arr.isNumber
  repeat' with_reducible (first | refine Le.letkF (by first | rfl | simp only [Lib.toList_data]) (fun z=>?_) | refine Le.chk ?_ | refine Le.bif ?_ ?_ | refine Le.map ?_ | refine Le.loop (fun s=>?_) | exact Arr.bytes.c_le .. | refine Le.bindF ?_ (fun z=>?_) | exact Le.refl _ | (rcases z with ⟨_,_⟩; dsimp only))
noncomputable def Arr.isScalar.c (a0:api.Array):Option Bool :=
 letkF ((a0.Shape.length:Int)) fun t5 =>
 letkF (t5 == (0:Int)) fun t6 =>
 some t6
theorem Arr.isScalar.c_le (a0:api.Array):Le (Arr.isScalar.c a0) (Arr.isScalar a0):=by
  unfold Arr.isScalar.c Arr.isScalar
  repeat' with_reducible (first | refine Le.letkF (by first | rfl | simp only [Lib.toList_data]) (fun z=>?_) | refine Le.chk ?_ | refine Le.bif ?_ ?_ | refine Le.map ?_ | refine Le.loop (fun s=>?_) | refine Le.bindF ?_ (fun z=>?_) | exact Le.refl _ | (rcases z with ⟨_,_⟩; dsimp only))
noncomputable def Arr.logical.c (is0:Bool):Option api.Value :=
 bif is0 then
 some (⟨2,1⟩:api.Value)
 else
 some (⟨2,0⟩:api.Value)
theorem Arr.logical.c_le (is0:Bool):Le (Arr.logical.c is0) (Arr.logical is0):=by
  unfold Arr.logical.c Arr.logical
  repeat' with_reducible (first | refine Le.letkF (by first | rfl | simp only [Lib.toList_data]) (fun z=>?_) | refine Le.chk ?_ | refine Le.bif ?_ ?_ | refine Le.map ?_ | refine Le.loop (fun s=>?_) | refine Le.bindF ?_ (fun z=>?_) | exact Le.refl _ | (rcases z with ⟨_,_⟩; dsimp only))
noncomputable def Arr.reduce.c (name0:ByteArray) (x1:api.Array):Option (api.Array × Int):=none
theorem Arr.reduce.c_le (name0:ByteArray) (x1:api.Array):Le (Arr.reduce.c name0 x1) (Arr.reduce name0 x1):=Le.none _
noncomputable def Arr.reshape.c (x0:api.Array) (s1:api.Array):Option (api.Array × Int):=none
theorem Arr.reshape.c_le (x0:api.Array) (s1:api.Array):Le (Arr.reshape.c x0 s1) (Arr.reshape x0 s1):=Le.none _
noncomputable def Arr.Kind.j3.c (op0:ByteArray) (a1:Int) (b2:Int) (t53:Bool):Option Int :=
 bif t53 then
 some 2
 else
 bindF (Slcs.Contains___string_string_.c ([⟨#[61,61]⟩,⟨#[47,61]⟩,⟨#[46,97,110,100,46]⟩,⟨#[46,111,114,46]⟩]) op0) fun t68 =>
 bif t68 then
 letkF (a1 == (2:Int)) fun t71 =>
 bif t71 then
 letkF (b2 == (2:Int)) fun t75 =>
 bif t75 then
 some 2
 else
 some 0
 else
 some 0
 else
 some 0
theorem Arr.Kind.j3.c_le (op0:ByteArray) (a1:Int) (b2:Int) (t53:Bool):Le (Arr.Kind.j3.c op0 a1 b2 t53) (Arr.Kind.j3 op0 a1 b2 t53):=by
  unfold Arr.Kind.j3.c Arr.Kind.j3
  repeat' with_reducible (first | refine Le.letkF (by first | rfl | simp only [Lib.toList_data]) (fun z=>?_) | refine Le.chk ?_ | refine Le.bif ?_ ?_ | refine Le.map ?_ | refine Le.loop (fun s=>?_) | exact Slcs.Contains___string_string_.c_le .. | refine Le.bindF ?_ (fun z=>?_) | exact Le.refl _ | (rcases z with ⟨_,_⟩; dsimp only))
noncomputable def Arr.Kind.j2.c (op0:ByteArray) (a1:Int) (b2:Int) (t38:Bool):Option Int :=
 bif t38 then
 letkF (if b2 > a1 then b2 else a1) fun t52 =>
 some t52
 else
 bindF (Slcs.Contains___string_string_.c ([⟨#[61,61]⟩,⟨#[47,61]⟩,⟨#[60]⟩,⟨#[60,61]⟩,⟨#[62]⟩,⟨#[62,61]⟩]) op0) fun t56 =>
 bif t56 then
 bindF (Arr.isNumber.c a1) fun t59 =>
 bif t59 then
 bindF (Arr.isNumber.c b2) fun t63 =>
 Arr.Kind.j3.c op0 a1 b2 t63
 else
 Arr.Kind.j3.c op0 a1 b2 false
 else
 Arr.Kind.j3.c op0 a1 b2 false
theorem Arr.Kind.j2.c_le (op0:ByteArray) (a1:Int) (b2:Int) (t38:Bool):Le (Arr.Kind.j2.c op0 a1 b2 t38) (Arr.Kind.j2 op0 a1 b2 t38):=by
  unfold Arr.Kind.j2.c Arr.Kind.j2
  repeat' with_reducible (first | refine Le.letkF (by first | rfl | simp only [Lib.toList_data]) (fun z=>?_) | refine Le.chk ?_ | refine Le.bif ?_ ?_ | refine Le.map ?_ | refine Le.loop (fun s=>?_) | exact Slcs.Contains___string_string_.c_le .. | exact Arr.isNumber.c_le .. | exact Arr.Kind.j3.c_le .. | refine Le.bindF ?_ (fun z=>?_) | exact Le.refl _ | (rcases z with ⟨_,_⟩; dsimp only))
noncomputable def Arr.Kind.j1.c (op0:ByteArray) (a1:Int) (b2:Int) (t23:Bool):Option Int :=
 bif t23 then
 some a1
 else
 letkF (b2 == (0:Int)) fun t37 =>
 bif t37 then
 some 0
 else
 bindF (Slcs.Contains___string_string_.c ([⟨#[43]⟩,⟨#[45]⟩,⟨#[42]⟩,⟨#[47]⟩]) op0) fun t41 =>
 bif t41 then
 bindF (Arr.isNumber.c a1) fun t44 =>
 bif t44 then
 bindF (Arr.isNumber.c b2) fun t48 =>
 Arr.Kind.j2.c op0 a1 b2 t48
 else
 Arr.Kind.j2.c op0 a1 b2 false
 else
 Arr.Kind.j2.c op0 a1 b2 false
theorem Arr.Kind.j1.c_le (op0:ByteArray) (a1:Int) (b2:Int) (t23:Bool):Le (Arr.Kind.j1.c op0 a1 b2 t23) (Arr.Kind.j1 op0 a1 b2 t23):=by
  unfold Arr.Kind.j1.c Arr.Kind.j1
  repeat' with_reducible (first | refine Le.letkF (by first | rfl | simp only [Lib.toList_data]) (fun z=>?_) | refine Le.chk ?_ | refine Le.bif ?_ ?_ | refine Le.map ?_ | refine Le.loop (fun s=>?_) | exact Slcs.Contains___string_string_.c_le .. | exact Arr.isNumber.c_le .. | exact Arr.Kind.j2.c_le .. | refine Le.bindF ?_ (fun z=>?_) | exact Le.refl _ | (rcases z with ⟨_,_⟩; dsimp only))
noncomputable def Arr.Kind.j0.c (op0:ByteArray) (a1:Int) (b2:Int) (t7:Bool):Option Int :=
 bif t7 then
 some a1
 else
 letkF (b2 == (0:Int)) fun t25 =>
 bif t25 then
 letkF (op0.data.toList == (⟨#[46,110,111,116,46]⟩:ByteArray).data.toList) fun t28 =>
 bif t28 then
 letkF (a1 == (2:Int)) fun t32 =>
 Arr.Kind.j1.c op0 a1 b2 t32
 else
 Arr.Kind.j1.c op0 a1 b2 false
 else
 Arr.Kind.j1.c op0 a1 b2 false
theorem Arr.Kind.j0.c_le (op0:ByteArray) (a1:Int) (b2:Int) (t7:Bool):Le (Arr.Kind.j0.c op0 a1 b2 t7) (Arr.Kind.j0 op0 a1 b2 t7):=by
  unfold Arr.Kind.j0.c Arr.Kind.j0
  repeat' with_reducible (first | refine Le.letkF (by first | rfl | simp only [Lib.toList_data]) (fun z=>?_) | refine Le.chk ?_ | refine Le.bif ?_ ?_ | refine Le.map ?_ | refine Le.loop (fun s=>?_) | exact Arr.Kind.j1.c_le .. | refine Le.bindF ?_ (fun z=>?_) | exact Le.refl _ | (rcases z with ⟨_,_⟩; dsimp only))
noncomputable def Arr.Kind.c (op0:ByteArray) (a1:Int) (b2:Int):Option Int :=
 letkF (b2 == (0:Int)) fun t9 =>
 bif t9 then
 letkF (op0.data.toList == (⟨#[43]⟩:ByteArray).data.toList) fun t12 =>
 bif t12 then
 bindF (Arr.isNumber.c a1) fun t20_1 =>
 Arr.Kind.j0.c op0 a1 b2 t20_1
 else
 letkF (op0.data.toList == (⟨#[45]⟩:ByteArray).data.toList) fun t15 =>
 bif t15 then
 bindF (Arr.isNumber.c a1) fun t20 =>
 Arr.Kind.j0.c op0 a1 b2 t20
 else
 Arr.Kind.j0.c op0 a1 b2 false
 else
 Arr.Kind.j0.c op0 a1 b2 false
theorem Arr.Kind.c_le (op0:ByteArray) (a1:Int) (b2:Int):Le (Arr.Kind.c op0 a1 b2) (Arr.Kind op0 a1 b2):=by
  unfold Arr.Kind.c Arr.Kind
  repeat' with_reducible (first | refine Le.letkF (by first | rfl | simp only [Lib.toList_data]) (fun z=>?_) | refine Le.chk ?_ | refine Le.bif ?_ ?_ | refine Le.map ?_ | refine Le.loop (fun s=>?_) | exact Arr.isNumber.c_le .. | exact Arr.Kind.j0.c_le .. | refine Le.bindF ?_ (fun z=>?_) | exact Le.refl _ | (rcases z with ⟨_,_⟩; dsimp only))
noncomputable def Arr.to.j0.c (kind0:Int) (v3_0:Int) (v3_1:Int) (t4_0:Int) (t4_1:Int):Option (api.Value × Int) :=
 bindF (Arr.bytes.c v3_0) fun t75 =>
 bindF (Arr.bytes.c kind0) fun t77 =>
 none
theorem Arr.to.j0.c_le (kind0:Int) (v3_0:Int) (v3_1:Int) (t4_0:Int) (t4_1:Int):Le (Arr.to.j0.c kind0 v3_0 v3_1 t4_0 t4_1) (Arr.to.j0 kind0 v3_0 v3_1 t4_0 t4_1):=by
  unfold Arr.to.j0.c Arr.to.j0
  repeat' with_reducible (first | refine Le.letkF (by first | rfl | simp only [Lib.toList_data]) (fun z=>?_) | refine Le.chk ?_ | refine Le.bif ?_ ?_ | refine Le.map ?_ | refine Le.loop (fun s=>?_) | exact Arr.bytes.c_le .. | refine Le.bindF ?_ (fun z=>?_) | exact Le.refl _ | (rcases z with ⟨_,_⟩; dsimp only))
noncomputable def Arr.to.j1.c (kind0:Int) (v3_0_1:Int) (v3_1_1:Int) (t4_0_1:Int) (t4_1_1:Int) (t21:Bool):Option (api.Value × Int) :=
 bif t21 then
 some ((⟨0,0⟩:api.Value),70)
 else
 letkF (v3_0_1 == (1:Int)) fun t35 =>
 bif t35 then
 bindF (Arr.bytes.c kind0) fun t38 =>
 none
 else
 letkF (kind0 == (1:Int)) fun t50 =>
 bif t50 then
 bindF (Arr.bytes.c v3_0_1) fun t54 =>
 none
 else
 Arr.to.j0.c kind0 v3_0_1 v3_1_1 t4_0_1 t4_1_1
theorem Arr.to.j1.c_le (kind0:Int) (v3_0_1:Int) (v3_1_1:Int) (t4_0_1:Int) (t4_1_1:Int) (t21:Bool):Le (Arr.to.j1.c kind0 v3_0_1 v3_1_1 t4_0_1 t4_1_1 t21) (Arr.to.j1 kind0 v3_0_1 v3_1_1 t4_0_1 t4_1_1 t21):=by
  unfold Arr.to.j1.c Arr.to.j1
  repeat' with_reducible (first | refine Le.letkF (by first | rfl | simp only [Lib.toList_data]) (fun z=>?_) | refine Le.chk ?_ | refine Le.bif ?_ ?_ | refine Le.map ?_ | refine Le.loop (fun s=>?_) | exact Arr.bytes.c_le .. | exact Arr.to.j0.c_le .. | refine Le.bindF ?_ (fun z=>?_) | exact Le.refl _ | (rcases z with ⟨_,_⟩; dsimp only))
noncomputable def Arr.to.c (kind0:Int) (v1:api.Value):Option (api.Value × Int) :=
 letkF (kind0 == v1.Kind) fun t19 =>
 bif t19 then
 some ((⟨v1.Kind,v1.N⟩:api.Value),0)
 else
 bindF (Arr.isNumber.c kind0) fun t23 =>
 letkF (!t23) fun t24 =>
 bif t24 then
 Arr.to.j1.c kind0 v1.Kind v1.N 0 0 true
 else
 bindF (Arr.isNumber.c v1.Kind) fun t28 =>
 letkF (!t28) fun t29 =>
 Arr.to.j1.c kind0 v1.Kind v1.N 0 0 t29
theorem Arr.to.c_le (kind0:Int) (v1:api.Value):Le (Arr.to.c kind0 v1) (Arr.to kind0 v1):=by
  unfold Arr.to.c Arr.to
  repeat' with_reducible (first | refine Le.letkF (by first | rfl | simp only [Lib.toList_data]) (fun z=>?_) | refine Le.chk ?_ | refine Le.bif ?_ ?_ | refine Le.map ?_ | refine Le.loop (fun s=>?_) | exact Arr.isNumber.c_le .. | exact Arr.to.j1.c_le .. | refine Le.bindF ?_ (fun z=>?_) | exact Le.refl _ | (rcases z with ⟨_,_⟩; dsimp only))
noncomputable def Arr.number.c (kind0:Int) (n1:Int):Option api.Value :=
 bindF (Arr.to.c kind0 (⟨1,n1⟩:api.Value)) fun (t11_0,t11_1) =>
 some (⟨t11_0.Kind,t11_0.N⟩:api.Value)
theorem Arr.number.c_le (kind0:Int) (n1:Int):Le (Arr.number.c kind0 n1) (Arr.number kind0 n1):=by
  unfold Arr.number.c Arr.number
  repeat' with_reducible (first | refine Le.letkF (by first | rfl | simp only [Lib.toList_data]) (fun z=>?_) | refine Le.chk ?_ | refine Le.bif ?_ ?_ | refine Le.map ?_ | refine Le.loop (fun s=>?_) | exact Arr.to.c_le .. | refine Le.bindF ?_ (fun z=>?_) | exact Le.refl _ | (rcases z with ⟨_,_⟩; dsimp only))
noncomputable def Arr.at_.j0.c (i1_1:Int) (a2_0:Int) (a2_1:List Int) (a2_2:List Int) (t4_0:Int) (t4_1:Int):Option api.Value :=
 chkD (0 ≤ i1_1) <|
 bindF (a2_2[i1_1.toNat]?) fun t12 =>
 some (⟨a2_0,t12⟩:api.Value)
theorem Arr.at_.j0.c_le (i1_1:Int) (a2_0:Int) (a2_1:List Int) (a2_2:List Int) (t4_0:Int) (t4_1:Int):Le (Arr.at_.j0.c i1_1 a2_0 a2_1 a2_2 t4_0 t4_1) (Arr.at_.j0 i1_1 a2_0 a2_1 a2_2 t4_0 t4_1):=by
  unfold Arr.at_.j0.c Arr.at_.j0
  repeat' with_reducible (first | refine Le.letkF (by first | rfl | simp only [Lib.toList_data]) (fun z=>?_) | refine Le.chk ?_ | refine Le.bif ?_ ?_ | refine Le.map ?_ | refine Le.loop (fun s=>?_) | refine Le.bindF ?_ (fun z=>?_) | exact Le.refl _ | (rcases z with ⟨_,_⟩; dsimp only))
noncomputable def Arr.at_.c (a0:api.Array) (i1:Int):Option api.Value :=
 bindF (Arr.isScalar.c (⟨a0.Kind,a0.Shape,a0.Elems⟩:api.Array)) fun t6 =>
 bif t6 then
 Arr.at_.j0.c 0 a0.Kind a0.Shape a0.Elems 0 0
 else
 Arr.at_.j0.c i1 a0.Kind a0.Shape a0.Elems 0 0
theorem Arr.at_.c_le (a0:api.Array) (i1:Int):Le (Arr.at_.c a0 i1) (Arr.at_ a0 i1):=by
  unfold Arr.at_.c Arr.at_
  repeat' with_reducible (first | refine Le.letkF (by first | rfl | simp only [Lib.toList_data]) (fun z=>?_) | refine Le.chk ?_ | refine Le.bif ?_ ?_ | refine Le.map ?_ | refine Le.loop (fun s=>?_) | exact Arr.isScalar.c_le .. | exact Arr.at_.j0.c_le .. | refine Le.bindF ?_ (fun z=>?_) | exact Le.refl _ | (rcases z with ⟨_,_⟩; dsimp only))
noncomputable def Arr.integer.c (n0:Int):Option (api.Value × Int) :=
 bindF (Arr.fits.c 1 n0) fun t5 =>
 letkF (!t5) fun t6 =>
 bif t6 then
 some ((⟨0,0⟩:api.Value),10)
 else
 some ((⟨1,n0⟩:api.Value),0)
theorem Arr.integer.c_le (n0:Int):Le (Arr.integer.c n0) (Arr.integer n0):=by
  unfold Arr.integer.c Arr.integer
  repeat' with_reducible (first | refine Le.letkF (by first | rfl | simp only [Lib.toList_data]) (fun z=>?_) | refine Le.chk ?_ | refine Le.bif ?_ ?_ | refine Le.map ?_ | refine Le.loop (fun s=>?_) | exact Arr.fits.c_le .. | refine Le.bindF ?_ (fun z=>?_) | exact Le.refl _ | (rcases z with ⟨_,_⟩; dsimp only))
noncomputable def Arr.reckon.c (op0:ByteArray) (a1:api.Value) (b2:api.Value):Option (api.Value × Int) :=
 letkF (if b2.Kind > a1.Kind then b2.Kind else a1.Kind) fun t17 =>
 bindF (Arr.to.c t17 (⟨a1.Kind,a1.N⟩:api.Value)) fun (t21_0,t21_1) =>
 bindF (Arr.to.c t17 (⟨b2.Kind,b2.N⟩:api.Value)) fun (t27_0,t27_1) =>
 letkF (t17 == (1:Int)) fun t31 =>
 bif t31 then
 letkF (op0.data.toList == (⟨#[43]⟩:ByteArray).data.toList) fun t34 =>
 bif t34 then
 letkF (IntKind.i64.wrap (t21_0.N + t27_0.N)) fun t39 =>
 bindF (Arr.integer.c t39) fun (t40_0,t40_1) =>
 some ((⟨t40_0.Kind,t40_0.N⟩:api.Value),t40_1)
 else
 letkF (op0.data.toList == (⟨#[45]⟩:ByteArray).data.toList) fun t44 =>
 bif t44 then
 letkF (IntKind.i64.wrap (t21_0.N - t27_0.N)) fun t49 =>
 bindF (Arr.integer.c t49) fun (t50_0,t50_1) =>
 some ((⟨t50_0.Kind,t50_0.N⟩:api.Value),t50_1)
 else
 letkF (op0.data.toList == (⟨#[42]⟩:ByteArray).data.toList) fun t54 =>
 bif t54 then
 letkF (IntKind.i64.wrap (t21_0.N * t27_0.N)) fun t59 =>
 bindF (Arr.integer.c t59) fun (t60_0,t60_1) =>
 some ((⟨t60_0.Kind,t60_0.N⟩:api.Value),t60_1)
 else
 letkF (t27_0.N == (0:Int)) fun t65 =>
 bif t65 then
 some ((⟨0,0⟩:api.Value),90)
 else
 chkD (t27_0.N ≠ 0) <|
 letkF (IntKind.i64.wrap (t21_0.N.tdiv t27_0.N)) fun t71 =>
 bindF (Arr.integer.c t71) fun (t72_0,t72_1) =>
 some ((⟨t72_0.Kind,t72_0.N⟩:api.Value),t72_1)
 else
 letkF (op0.data.toList == (⟨#[43]⟩:ByteArray).data.toList) fun t78 =>
 bif t78 then
 bindF (Arr.bytes.c t17) fun t82_3 =>
 none
 else
 letkF (op0.data.toList == (⟨#[45]⟩:ByteArray).data.toList) fun t78_1 =>
 bif t78_1 then
 bindF (Arr.bytes.c t17) fun t82_2 =>
 none
 else
 letkF (op0.data.toList == (⟨#[42]⟩:ByteArray).data.toList) fun t78_2 =>
 bif t78_2 then
 bindF (Arr.bytes.c t17) fun t82_1 =>
 none
 else
 letkF (op0.data.toList == (⟨#[47]⟩:ByteArray).data.toList) fun t78_3 =>
 bif t78_3 then
 bindF (Arr.bytes.c t17) fun t82 =>
 none
 else
 none
theorem Arr.reckon.c_le (op0:ByteArray) (a1:api.Value) (b2:api.Value):Le (Arr.reckon.c op0 a1 b2) (Arr.reckon op0 a1 b2):=by
  unfold Arr.reckon.c Arr.reckon
  repeat' with_reducible (first | refine Le.letkF (by first | rfl | simp only [Lib.toList_data]) (fun z=>?_) | refine Le.chk ?_ | refine Le.bif ?_ ?_ | refine Le.map ?_ | refine Le.loop (fun s=>?_) | exact Arr.bytes.c_le .. | exact Arr.to.c_le .. | exact Arr.integer.c_le .. | refine Le.bindF ?_ (fun z=>?_) | exact Le.refl _ | (rcases z with ⟨_,_⟩; dsimp only))
noncomputable def Arr.one.j0.c (op0:ByteArray) (a4_0:Int) (a4_1:Int) (b5_0:Int) (b5_1:Int) (t6_0:Int) (t6_1:Int):Option (api.Value × Int) :=
 letkF (a4_0 == (2:Int)) fun t44 =>
 bif t44 then
 letkF (a4_1 == b5_1) fun t49 =>
 letkF (op0.data.toList == (⟨#[61,61]⟩:ByteArray).data.toList) fun t51 =>
 letkF (t49 == t51) fun t52 =>
 bindF (Arr.logical.c t52) fun t53 =>
 some ((⟨t53.Kind,t53.N⟩:api.Value),0)
 else
 none
theorem Arr.one.j0.c_le (op0:ByteArray) (a4_0:Int) (a4_1:Int) (b5_0:Int) (b5_1:Int) (t6_0:Int) (t6_1:Int):Le (Arr.one.j0.c op0 a4_0 a4_1 b5_0 b5_1 t6_0 t6_1) (Arr.one.j0 op0 a4_0 a4_1 b5_0 b5_1 t6_0 t6_1):=by
  unfold Arr.one.j0.c Arr.one.j0
  repeat' with_reducible (first | refine Le.letkF (by first | rfl | simp only [Lib.toList_data]) (fun z=>?_) | refine Le.chk ?_ | refine Le.bif ?_ ?_ | refine Le.map ?_ | refine Le.loop (fun s=>?_) | exact Arr.logical.c_le .. | refine Le.bindF ?_ (fun z=>?_) | exact Le.refl _ | (rcases z with ⟨_,_⟩; dsimp only))
noncomputable def Arr.one.j1.c (op0:ByteArray) (a1:api.Value) (b2:api.Value) (t31:Bool):Option (api.Value × Int) :=
 bif t31 then
 bindF (Arr.reckon.c op0 (⟨a1.Kind,a1.N⟩:api.Value) (⟨b2.Kind,b2.N⟩:api.Value)) fun (t39_0,t39_1) =>
 some ((⟨t39_0.Kind,t39_0.N⟩:api.Value),t39_1)
 else
 Arr.one.j0.c op0 a1.Kind a1.N b2.Kind b2.N 0 0
theorem Arr.one.j1.c_le (op0:ByteArray) (a1:api.Value) (b2:api.Value) (t31:Bool):Le (Arr.one.j1.c op0 a1 b2 t31) (Arr.one.j1 op0 a1 b2 t31):=by
  unfold Arr.one.j1.c Arr.one.j1
  repeat' with_reducible (first | refine Le.letkF (by first | rfl | simp only [Lib.toList_data]) (fun z=>?_) | refine Le.chk ?_ | refine Le.bif ?_ ?_ | refine Le.map ?_ | refine Le.loop (fun s=>?_) | exact Arr.reckon.c_le .. | exact Arr.one.j0.c_le .. | refine Le.bindF ?_ (fun z=>?_) | exact Le.refl _ | (rcases z with ⟨_,_⟩; dsimp only))
noncomputable def Arr.one.c (op0:ByteArray) (a1:api.Value) (b2:api.Value):Option (api.Value × Int) :=
 letkF (op0.data.toList == (⟨#[46,97,110,100,46]⟩:ByteArray).data.toList) fun t10 =>
 bif t10 then
 letkF (a1.N == (1:Int)) fun t13 =>
 bif t13 then
 letkF (b2.N == (1:Int)) fun t17 =>
 bindF (Arr.logical.c t17) fun t19_1 =>
 some ((⟨t19_1.Kind,t19_1.N⟩:api.Value),0)
 else
 bindF (Arr.logical.c false) fun t19 =>
 some ((⟨t19.Kind,t19.N⟩:api.Value),0)
 else
 letkF (op0.data.toList == (⟨#[46,111,114,46]⟩:ByteArray).data.toList) fun t21 =>
 bif t21 then
 letkF (a1.N == (1:Int)) fun t24 =>
 bif t24 then
 bindF (Arr.logical.c true) fun t30_1 =>
 some ((⟨t30_1.Kind,t30_1.N⟩:api.Value),0)
 else
 letkF (b2.N == (1:Int)) fun t28 =>
 bindF (Arr.logical.c t28) fun t30 =>
 some ((⟨t30.Kind,t30.N⟩:api.Value),0)
 else
 letkF (op0.data.toList == (⟨#[43]⟩:ByteArray).data.toList) fun t32 =>
 bif t32 then
 Arr.one.j1.c op0 a1 b2 true
 else
 letkF (op0.data.toList == (⟨#[45]⟩:ByteArray).data.toList) fun t33 =>
 bif t33 then
 Arr.one.j1.c op0 a1 b2 true
 else
 letkF (op0.data.toList == (⟨#[42]⟩:ByteArray).data.toList) fun t34 =>
 bif t34 then
 Arr.one.j1.c op0 a1 b2 true
 else
 letkF (op0.data.toList == (⟨#[47]⟩:ByteArray).data.toList) fun t35 =>
 Arr.one.j1.c op0 a1 b2 t35
theorem Arr.one.c_le (op0:ByteArray) (a1:api.Value) (b2:api.Value):Le (Arr.one.c op0 a1 b2) (Arr.one op0 a1 b2):=by
  unfold Arr.one.c Arr.one
  repeat' with_reducible (first | refine Le.letkF (by first | rfl | simp only [Lib.toList_data]) (fun z=>?_) | refine Le.chk ?_ | refine Le.bif ?_ ?_ | refine Le.map ?_ | refine Le.loop (fun s=>?_) | exact Arr.logical.c_le .. | exact Arr.one.j1.c_le .. | refine Le.bindF ?_ (fun z=>?_) | exact Le.refl _ | (rcases z with ⟨_,_⟩; dsimp only))
noncomputable def Arr.matmul_1.j0.c (t1:Int) (t3:Int) (t4:api.Array) (t5:api.Array) (t17:Int) (t20:Int) (t24:Int) (t7_0_1:Int) (t7_1_1:Int) (sum11_0_1:Int) (sum11_1_1:Int) (e14:Int):Option ((Int × Int × Int × Int × Int) ⊕ (api.Value × Int)) :=
 letkF (e14 != (0:Int)) fun t54 =>
 bif t54 then
 some (.inr ((⟨0,0⟩:api.Value),e14))
 else
 letkF (IntKind.i64.wrap (t24 + (1:Int))) fun t57 =>
 some (.inl (t7_0_1,t7_1_1,sum11_0_1,sum11_1_1,t57))
theorem Arr.matmul_1.j0.c_le (t1:Int) (t3:Int) (t4:api.Array) (t5:api.Array) (t17:Int) (t20:Int) (t24:Int) (t7_0_1:Int) (t7_1_1:Int) (sum11_0_1:Int) (sum11_1_1:Int) (e14:Int):Le (Arr.matmul_1.j0.c t1 t3 t4 t5 t17 t20 t24 t7_0_1 t7_1_1 sum11_0_1 sum11_1_1 e14) (Arr.matmul_1.j0 t1 t3 t4 t5 t17 t20 t24 t7_0_1 t7_1_1 sum11_0_1 sum11_1_1 e14):=by
  unfold Arr.matmul_1.j0.c Arr.matmul_1.j0
  repeat' with_reducible (first | refine Le.letkF (by first | rfl | simp only [Lib.toList_data]) (fun z=>?_) | refine Le.chk ?_ | refine Le.bif ?_ ?_ | refine Le.map ?_ | refine Le.loop (fun s=>?_) | refine Le.bindF ?_ (fun z=>?_) | exact Le.refl _ | (rcases z with ⟨_,_⟩; dsimp only))
noncomputable def Arr.matmul_1.s0.c (t1:Int) (t3:Int) (t4:api.Array) (t5:api.Array) (t17:Int) (t20:Int) (t7_0:Int) (t7_1:Int) (sum11_0:Int) (sum11_1:Int) (t24:Int):Option ((Int × Int × Int × Int × Int) ⊕ (api.Value × Int)) :=
 letkF (decide (t24 < t3)) fun t25 =>
 bif t25 then
 letkF (IntKind.i64.wrap (t24 * t1)) fun t32 =>
 letkF (IntKind.i64.wrap (t17 + t32)) fun t33 =>
 bindF (Arr.at_.c t4 t33) fun t34 =>
 letkF (IntKind.i64.wrap (t20 * t3)) fun t39 =>
 letkF (IntKind.i64.wrap (t24 + t39)) fun t40 =>
 bindF (Arr.at_.c t5 t40) fun t41 =>
 bindF (Arr.one.c ⟨#[42]⟩ t34 t41) fun (t42_0,t42_1) =>
 letkF (t42_1 == (0:Int)) fun t46 =>
 bif t46 then
 bindF (Arr.one.c ⟨#[43]⟩ (⟨sum11_0,sum11_1⟩:api.Value) (⟨t42_0.Kind,t42_0.N⟩:api.Value)) fun (t50_0,t50_1) =>
 Arr.matmul_1.j0.c t1 t3 t4 t5 t17 t20 t24 t7_0 t7_1 t50_0.Kind t50_0.N t50_1
 else
 Arr.matmul_1.j0.c t1 t3 t4 t5 t17 t20 t24 t7_0 t7_1 sum11_0 sum11_1 t42_1
 else
 some (.inr ((⟨sum11_0,sum11_1⟩:api.Value),0))
theorem Arr.matmul_1.s0.c_le (t1:Int) (t3:Int) (t4:api.Array) (t5:api.Array) (t17:Int) (t20:Int) (t7_0:Int) (t7_1:Int) (sum11_0:Int) (sum11_1:Int) (t24:Int):Le (Arr.matmul_1.s0.c t1 t3 t4 t5 t17 t20 t7_0 t7_1 sum11_0 sum11_1 t24) (Arr.matmul_1.s0 t1 t3 t4 t5 t17 t20 t7_0 t7_1 sum11_0 sum11_1 t24):=by
  unfold Arr.matmul_1.s0.c Arr.matmul_1.s0
  repeat' with_reducible (first | refine Le.letkF (by first | rfl | simp only [Lib.toList_data]) (fun z=>?_) | refine Le.chk ?_ | refine Le.bif ?_ ?_ | refine Le.map ?_ | refine Le.loop (fun s=>?_) | exact Arr.at_.c_le .. | exact Arr.one.c_le .. | exact Arr.matmul_1.j0.c_le .. | refine Le.bindF ?_ (fun z=>?_) | exact Le.refl _ | (rcases z with ⟨_,_⟩; dsimp only))
noncomputable def Arr.matmul_1.l0.c (t1:Int) (t3:Int) (t4:api.Array) (t5:api.Array) (t17:Int) (t20:Int) (t7_0:Int) (t7_1:Int) (sum11_0:Int) (sum11_1:Int) (t24:Int):Option (api.Value × Int):=iterO (fun v:Int × Int × Int × Int × Int=>Arr.matmul_1.s0.c t1 t3 t4 t5 t17 t20 v.1 v.2.1 v.2.2.1 v.2.2.2.1 v.2.2.2.2) 3000 (t7_0,t7_1,sum11_0,sum11_1,t24)
theorem Arr.matmul_1.l0.c_le (t1:Int) (t3:Int) (t4:api.Array) (t5:api.Array) (t17:Int) (t20:Int) (t7_0:Int) (t7_1:Int) (sum11_0:Int) (sum11_1:Int) (t24:Int):Le (Arr.matmul_1.l0.c t1 t3 t4 t5 t17 t20 t7_0 t7_1 sum11_0 sum11_1 t24) (Arr.matmul_1.l0 t1 t3 t4 t5 t17 t20 t7_0 t7_1 sum11_0 sum11_1 t24):=by
  unfold Arr.matmul_1.l0.c Arr.matmul_1.l0
  repeat' with_reducible (first | refine Le.letkF (by first | rfl | simp only [Lib.toList_data]) (fun z=>?_) | refine Le.chk ?_ | refine Le.bif ?_ ?_ | refine Le.map ?_ | refine Le.loop (fun s=>?_) | exact Arr.matmul_1.s0.c_le .. | refine Le.bindF ?_ (fun z=>?_) | exact Le.refl _ | (rcases z with ⟨_,_⟩; dsimp only))
noncomputable def Arr.matmul_1.c (n0:Int) (t1:Int) (t2:Int) (t3:Int) (t4:api.Array) (t5:api.Array):Option (api.Value × Int) :=
 chkD (t1 ≠ 0) <|
 letkF (n0.tmod t1) fun t17 =>
 chkD (t1 ≠ 0) <|
 letkF (IntKind.i64.wrap (n0.tdiv t1)) fun t20 =>
 bindF (Arr.number.c t2 0) fun t22 =>
 Arr.matmul_1.l0.c t1 t3 t4 t5 t17 t20 0 0 t22.Kind t22.N 0
theorem Arr.matmul_1.c_le (n0:Int) (t1:Int) (t2:Int) (t3:Int) (t4:api.Array) (t5:api.Array):Le (Arr.matmul_1.c n0 t1 t2 t3 t4 t5) (Arr.matmul_1 n0 t1 t2 t3 t4 t5):=by
  unfold Arr.matmul_1.c Arr.matmul_1
  repeat' with_reducible (first | refine Le.letkF (by first | rfl | simp only [Lib.toList_data]) (fun z=>?_) | refine Le.chk ?_ | refine Le.bif ?_ ?_ | refine Le.map ?_ | refine Le.loop (fun s=>?_) | exact Arr.number.c_le .. | exact Arr.matmul_1.l0.c_le .. | refine Le.bindF ?_ (fun z=>?_) | exact Le.refl _ | (rcases z with ⟨_,_⟩; dsimp only))
noncomputable def Arr.each.s0.c (t16:Int) (f2:Int → Option (api.Value × Int)) (t6_0:Int) (t6_1:List Int) (t6_2:List Int) (out8_0:Int) (out8_1:List Int) (out8_2:List Int) (t17:Int):Option ((Int × (List Int) × (List Int) × Int × (List Int) × (List Int) × Int) ⊕ (api.Array × Int)) :=
 letkF (decide (t17 < t16)) fun t18 =>
 bif t18 then
 bindF (f2 t17) fun (t23_0,t23_1) =>
 letkF (t23_1 != (0:Int)) fun t27 =>
 bif t27 then
 some (.inr ((⟨0,[],[]⟩:api.Array),t23_1))
 else
 chkD ((out8_2.length + ([t23_0.N]).length) * 8 ≤ 140737488355328) <|
 letkF (out8_2 ++ ([t23_0.N])) fun t35 =>
 letkF (IntKind.i64.wrap (t17 + (1:Int))) fun t37 =>
 some (.inl (t6_0,t6_1,t6_2,out8_0,out8_1,t35,t37))
 else
 some (.inr ((⟨out8_0,out8_1,out8_2⟩:api.Array),0))
theorem Arr.each.s0.c_le (t16:Int) (f2:Int → Option (api.Value × Int)) (t6_0:Int) (t6_1:List Int) (t6_2:List Int) (out8_0:Int) (out8_1:List Int) (out8_2:List Int) (t17:Int) (f2':Int → Option (api.Value × Int)) (hf2:∀ z0,Le (f2 z0) (f2' z0)):Le (Arr.each.s0.c t16 f2 t6_0 t6_1 t6_2 out8_0 out8_1 out8_2 t17) (Arr.each.s0 t16 f2' t6_0 t6_1 t6_2 out8_0 out8_1 out8_2 t17):=by
  unfold Arr.each.s0.c Arr.each.s0
  repeat' with_reducible (first | refine Le.letkF (by first | rfl | simp only [Lib.toList_data]) (fun z=>?_) | refine Le.chk ?_ | refine Le.bif ?_ ?_ | refine Le.map ?_ | refine Le.loop (fun s=>?_) | exact hf2 .. | refine Le.bindF ?_ (fun z=>?_) | exact Le.refl _ | (rcases z with ⟨_,_⟩; dsimp only))
noncomputable def Arr.each.l0.c (t16:Int) (f2:Int → Option (api.Value × Int)) (t6_0:Int) (t6_1:List Int) (t6_2:List Int) (out8_0:Int) (out8_1:List Int) (out8_2:List Int) (t17:Int):Option (api.Array × Int):=iterO (fun v:Int × (List Int) × (List Int) × Int × (List Int) × (List Int) × Int=>Arr.each.s0.c t16 f2 v.1 v.2.1 v.2.2.1 v.2.2.2.1 v.2.2.2.2.1 v.2.2.2.2.2.1 v.2.2.2.2.2.2) 3000 (t6_0,t6_1,t6_2,out8_0,out8_1,out8_2,t17)
theorem Arr.each.l0.c_le (t16:Int) (f2:Int → Option (api.Value × Int)) (t6_0:Int) (t6_1:List Int) (t6_2:List Int) (out8_0:Int) (out8_1:List Int) (out8_2:List Int) (t17:Int) (f2':Int → Option (api.Value × Int)) (hf2:∀ z0,Le (f2 z0) (f2' z0)):Le (Arr.each.l0.c t16 f2 t6_0 t6_1 t6_2 out8_0 out8_1 out8_2 t17) (Arr.each.l0 t16 f2' t6_0 t6_1 t6_2 out8_0 out8_1 out8_2 t17):=by
  unfold Arr.each.l0.c Arr.each.l0
  repeat' with_reducible (first | refine Le.letkF (by first | rfl | simp only [Lib.toList_data]) (fun z=>?_) | refine Le.chk ?_ | refine Le.bif ?_ ?_ | refine Le.map ?_ | refine Le.loop (fun s=>?_) | refine Arr.each.s0.c_le _ _ _ _ _ _ _ _ _ _ (fun _=>?_) | exact hf2 .. | refine Le.bindF ?_ (fun z=>?_) | exact Le.refl _ | (rcases z with ⟨_,_⟩; dsimp only))
noncomputable def Arr.each.c (kind0:Int) (shape1:List Int) (f2:Int → Option (api.Value × Int)):Option (api.Array × Int) :=
 bindF (Arr.size.c shape1) fun t16 =>
 Arr.each.l0.c t16 f2 0 ([]) ([]) kind0 shape1 ([]) 0
theorem Arr.each.c_le (kind0:Int) (shape1:List Int) (f2:Int → Option (api.Value × Int)) (f2':Int → Option (api.Value × Int)) (hf2:∀ z0,Le (f2 z0) (f2' z0)):Le (Arr.each.c kind0 shape1 f2) (Arr.each kind0 shape1 f2'):=by
  unfold Arr.each.c Arr.each
  repeat' with_reducible (first | refine Le.letkF (by first | rfl | simp only [Lib.toList_data]) (fun z=>?_) | refine Le.chk ?_ | refine Le.bif ?_ ?_ | refine Le.map ?_ | refine Le.loop (fun s=>?_) | exact Arr.size.c_le .. | refine Arr.each.l0.c_le _ _ _ _ _ _ _ _ _ _ (fun _=>?_) | exact hf2 .. | refine Le.bindF ?_ (fun z=>?_) | exact Le.refl _ | (rcases z with ⟨_,_⟩; dsimp only))
noncomputable def Arr.matmul.j2.c (x2_0_2:Int) (x2_1_2:List Int) (x2_2_2:List Int) (y3_0_2:Int) (y3_1_2:List Int) (y3_2_2:List Int) (t4_0_2:Int) (t4_1_2:List Int) (t4_2_2:List Int) (kind6_2:Int) (rows9_1:Int) (many11_1:Int) (shape12_1:List Int):Option (api.Array × Int) :=
 bindF (Arr.size.c shape12_1) fun t88 =>
 letkF (decide (t88 < (0:Int))) fun t89 =>
 bif t89 then
 some ((⟨0,[],[]⟩:api.Array),30)
 else
 bindF (Arr.each.c kind6_2 shape12_1 (fun z0_=>Arr.matmul_1.c z0_ rows9_1 kind6_2 many11_1 (⟨x2_0_2,x2_1_2,x2_2_2⟩:api.Array) (⟨y3_0_2,y3_1_2,y3_2_2⟩:api.Array))) fun (t94_0,t94_1) =>
 some ((⟨t94_0.Kind,t94_0.Shape,t94_0.Elems⟩:api.Array),t94_1)
theorem Arr.matmul.j2.c_le (x2_0_2:Int) (x2_1_2:List Int) (x2_2_2:List Int) (y3_0_2:Int) (y3_1_2:List Int) (y3_2_2:List Int) (t4_0_2:Int) (t4_1_2:List Int) (t4_2_2:List Int) (kind6_2:Int) (rows9_1:Int) (many11_1:Int) (shape12_1:List Int):Le (Arr.matmul.j2.c x2_0_2 x2_1_2 x2_2_2 y3_0_2 y3_1_2 y3_2_2 t4_0_2 t4_1_2 t4_2_2 kind6_2 rows9_1 many11_1 shape12_1) (Arr.matmul.j2 x2_0_2 x2_1_2 x2_2_2 y3_0_2 y3_1_2 y3_2_2 t4_0_2 t4_1_2 t4_2_2 kind6_2 rows9_1 many11_1 shape12_1):=by
  unfold Arr.matmul.j2.c Arr.matmul.j2
  repeat' with_reducible (first | refine Le.letkF (by first | rfl | simp only [Lib.toList_data]) (fun z=>?_) | refine Le.chk ?_ | refine Le.bif ?_ ?_ | refine Le.map ?_ | refine Le.loop (fun s=>?_) | exact Arr.size.c_le .. | exact Arr.matmul_1.c_le .. | refine Arr.each.c_le _ _ _ _ (fun _=>?_) | refine Le.bindF ?_ (fun z=>?_) | exact Le.refl _ | (rcases z with ⟨_,_⟩; dsimp only))
noncomputable def Arr.matmul.j1.c (t23:Int) (x2_0_1:Int) (x2_1_1:List Int) (x2_2_1:List Int) (y3_0_1:Int) (y3_1_1:List Int) (y3_2_1:List Int) (t4_0_1:Int) (t4_1_1:List Int) (t4_2_1:List Int) (kind6_1:Int) (rows9:Int) (many11:Int) (shape12:List Int):Option (api.Array × Int) :=
 letkF (t23 == (2:Int)) fun t78 =>
 bif t78 then
 chkD (0 ≤ (1:Int)) <|
 bindF (y3_1_1[(1:Int).toNat]?) fun t81 =>
 chkD ((shape12.length + ([t81]).length) * 8 ≤ 140737488355328) <|
 letkF (shape12 ++ ([t81])) fun t86 =>
 Arr.matmul.j2.c x2_0_1 x2_1_1 x2_2_1 y3_0_1 y3_1_1 y3_2_1 t4_0_1 t4_1_1 t4_2_1 kind6_1 rows9 many11 t86
 else
 Arr.matmul.j2.c x2_0_1 x2_1_1 x2_2_1 y3_0_1 y3_1_1 y3_2_1 t4_0_1 t4_1_1 t4_2_1 kind6_1 rows9 many11 shape12
theorem Arr.matmul.j1.c_le (t23:Int) (x2_0_1:Int) (x2_1_1:List Int) (x2_2_1:List Int) (y3_0_1:Int) (y3_1_1:List Int) (y3_2_1:List Int) (t4_0_1:Int) (t4_1_1:List Int) (t4_2_1:List Int) (kind6_1:Int) (rows9:Int) (many11:Int) (shape12:List Int):Le (Arr.matmul.j1.c t23 x2_0_1 x2_1_1 x2_2_1 y3_0_1 y3_1_1 y3_2_1 t4_0_1 t4_1_1 t4_2_1 kind6_1 rows9 many11 shape12) (Arr.matmul.j1 t23 x2_0_1 x2_1_1 x2_2_1 y3_0_1 y3_1_1 y3_2_1 t4_0_1 t4_1_1 t4_2_1 kind6_1 rows9 many11 shape12):=by
  unfold Arr.matmul.j1.c Arr.matmul.j1
  repeat' with_reducible (first | refine Le.letkF (by first | rfl | simp only [Lib.toList_data]) (fun z=>?_) | refine Le.chk ?_ | refine Le.bif ?_ ?_ | refine Le.map ?_ | refine Le.loop (fun s=>?_) | exact Arr.matmul.j2.c_le .. | refine Le.bindF ?_ (fun z=>?_) | exact Le.refl _ | (rcases z with ⟨_,_⟩; dsimp only))
noncomputable def Arr.matmul.j0.c (t20:Int) (t23:Int) (x2_0:Int) (x2_1:List Int) (x2_2:List Int) (y3_0:Int) (y3_1:List Int) (y3_2:List Int) (t4_0:Int) (t4_1:List Int) (t4_2:List Int) (kind6:Int):Option (api.Array × Int) :=
 chkD (0 ≤ (0:Int)) <|
 bindF (y3_1[(0:Int).toNat]?) fun t65 =>
 letkF (t20 == (2:Int)) fun t68 =>
 bif t68 then
 chkD (0 ≤ (0:Int)) <|
 bindF (x2_1[(0:Int).toNat]?) fun t71 =>
 chkD (([t71]).length * 8 ≤ 140737488355328) <|
 letkF (([t71])) fun t76 =>
 Arr.matmul.j1.c t23 x2_0 x2_1 x2_2 y3_0 y3_1 y3_2 t4_0 t4_1 t4_2 kind6 t71 t65 t76
 else
 Arr.matmul.j1.c t23 x2_0 x2_1 x2_2 y3_0 y3_1 y3_2 t4_0 t4_1 t4_2 kind6 1 t65 ([])
theorem Arr.matmul.j0.c_le (t20:Int) (t23:Int) (x2_0:Int) (x2_1:List Int) (x2_2:List Int) (y3_0:Int) (y3_1:List Int) (y3_2:List Int) (t4_0:Int) (t4_1:List Int) (t4_2:List Int) (kind6:Int):Le (Arr.matmul.j0.c t20 t23 x2_0 x2_1 x2_2 y3_0 y3_1 y3_2 t4_0 t4_1 t4_2 kind6) (Arr.matmul.j0 t20 t23 x2_0 x2_1 x2_2 y3_0 y3_1 y3_2 t4_0 t4_1 t4_2 kind6):=by
  unfold Arr.matmul.j0.c Arr.matmul.j0
  repeat' with_reducible (first | refine Le.letkF (by first | rfl | simp only [Lib.toList_data]) (fun z=>?_) | refine Le.chk ?_ | refine Le.bif ?_ ?_ | refine Le.map ?_ | refine Le.loop (fun s=>?_) | exact Arr.matmul.j1.c_le .. | refine Le.bindF ?_ (fun z=>?_) | exact Le.refl _ | (rcases z with ⟨_,_⟩; dsimp only))
noncomputable def Arr.matmul.j3.c (x0:api.Array) (y1:api.Array) (t17:Int) (t20:Int) (t23:Int) (t4_1_3:List Int) (t4_2_3:List Int) (t28:Bool):Option (api.Array × Int) :=
 bif t28 then
 some ((⟨0,[],[]⟩:api.Array),71)
 else
 letkF (IntKind.i64.wrap (t20 - (1:Int))) fun t54 =>
 chkD (0 ≤ t54) <|
 bindF (x0.Shape[t54.toNat]?) fun t55 =>
 chkD (0 ≤ (0:Int)) <|
 bindF (y1.Shape[(0:Int).toNat]?) fun t59 =>
 letkF (t55 != t59) fun t61 =>
 bif t61 then
 some ((⟨0,[],[]⟩:api.Array),30)
 else
 Arr.matmul.j0.c t20 t23 x0.Kind x0.Shape x0.Elems y1.Kind y1.Shape y1.Elems 0 t4_1_3 t4_2_3 t17
theorem Arr.matmul.j3.c_le (x0:api.Array) (y1:api.Array) (t17:Int) (t20:Int) (t23:Int) (t4_1_3:List Int) (t4_2_3:List Int) (t28:Bool):Le (Arr.matmul.j3.c x0 y1 t17 t20 t23 t4_1_3 t4_2_3 t28) (Arr.matmul.j3 x0 y1 t17 t20 t23 t4_1_3 t4_2_3 t28):=by
  unfold Arr.matmul.j3.c Arr.matmul.j3
  repeat' with_reducible (first | refine Le.letkF (by first | rfl | simp only [Lib.toList_data]) (fun z=>?_) | refine Le.chk ?_ | refine Le.bif ?_ ?_ | refine Le.map ?_ | refine Le.loop (fun s=>?_) | exact Arr.matmul.j0.c_le .. | refine Le.bindF ?_ (fun z=>?_) | exact Le.refl _ | (rcases z with ⟨_,_⟩; dsimp only))
noncomputable def Arr.matmul.c (x0:api.Array) (y1:api.Array):Option (api.Array × Int) :=
 bindF (Arr.Kind.c ⟨#[42]⟩ x0.Kind y1.Kind) fun t17 =>
 letkF ((x0.Shape.length:Int)) fun t20 =>
 letkF ((y1.Shape.length:Int)) fun t23 =>
 letkF (t17 == (0:Int)) fun t26 =>
 bif t26 then
 some ((⟨0,[],[]⟩:api.Array),70)
 else
 letkF (decide (t20 < (1:Int))) fun t30 =>
 bif t30 then
 Arr.matmul.j3.c x0 y1 t17 t20 t23 ([]) ([]) true
 else
 letkF (decide (t20 > (2:Int))) fun t33 =>
 bif t33 then
 Arr.matmul.j3.c x0 y1 t17 t20 t23 ([]) ([]) true
 else
 letkF (decide (t23 < (1:Int))) fun t37 =>
 bif t37 then
 Arr.matmul.j3.c x0 y1 t17 t20 t23 ([]) ([]) true
 else
 letkF (decide (t23 > (2:Int))) fun t41 =>
 bif t41 then
 Arr.matmul.j3.c x0 y1 t17 t20 t23 ([]) ([]) true
 else
 letkF (IntKind.i64.wrap (t20 + t23)) fun t46 =>
 letkF (decide (t46 < (3:Int))) fun t47 =>
 Arr.matmul.j3.c x0 y1 t17 t20 t23 ([]) ([]) t47
theorem Arr.matmul.c_le (x0:api.Array) (y1:api.Array):Le (Arr.matmul.c x0 y1) (Arr.matmul x0 y1):=by
  unfold Arr.matmul.c Arr.matmul
  repeat' with_reducible (first | refine Le.letkF (by first | rfl | simp only [Lib.toList_data]) (fun z=>?_) | refine Le.chk ?_ | refine Le.bif ?_ ?_ | refine Le.map ?_ | refine Le.loop (fun s=>?_) | exact Arr.Kind.c_le .. | exact Arr.matmul.j3.c_le .. | refine Le.bindF ?_ (fun z=>?_) | exact Le.refl _ | (rcases z with ⟨_,_⟩; dsimp only))
noncomputable def Arr.cshift.c (x0:api.Array) (n1:api.Array):Option (api.Array × Int):=none
theorem Arr.cshift.c_le (x0:api.Array) (n1:api.Array):Le (Arr.cshift.c x0 n1) (Arr.cshift x0 n1):=Le.none _
noncomputable def Arr.spread.c (x0:api.Array) (n1:api.Array):Option (api.Array × Int):=none
theorem Arr.spread.c_le (x0:api.Array) (n1:api.Array):Le (Arr.spread.c x0 n1) (Arr.spread x0 n1):=Le.none _
noncomputable def Arr.pack.c (x0:api.Array) (m1:api.Array):Option (api.Array × Int):=none
theorem Arr.pack.c_le (x0:api.Array) (m1:api.Array):Le (Arr.pack.c x0 m1) (Arr.pack x0 m1):=Le.none _
noncomputable def Arr.reshapes.s1.c (t44:Int) (t46:Int) (t51:Int) (t4_0_1:Int) (t4_1_1:List Int) (t4_2_1:List Int) (x6_0_1:Int) (x6_1_1:List Int) (x6_2_1:List Int) (out7_0_1:Int) (out7_1_1:List Int) (out7_2_1:List Int) (t53:Int):Option ((Int × (List Int) × (List Int) × Int × (List Int) × (List Int) × Int × (List Int) × (List Int) × Int) ⊕ ((Int × (List Int) × (List Int) × Int × (List Int) × (List Int) × Int × (List Int) × (List Int) × Int) ⊕ (api.Array × Int))) :=
 letkF (decide (t53 < t51)) fun t54 =>
 bif t54 then
 chkD (0 ≤ (0:Int)) <|
 bindF (x6_1_1[(0:Int).toNat]?) fun t64 =>
 letkF (IntKind.i64.wrap (t53 * t64)) fun t66 =>
 letkF (IntKind.i64.wrap (t46 + t66)) fun t67 =>
 chkD (0 ≤ t67) <|
 bindF (x6_2_1[t67.toNat]?) fun t68 =>
 chkD ((out7_2_1.length + ([t68]).length) * 8 ≤ 140737488355328) <|
 letkF (out7_2_1 ++ ([t68])) fun t71 =>
 letkF (IntKind.i64.wrap (t53 + (1:Int))) fun t73 =>
 some (.inl (t4_0_1,t4_1_1,t4_2_1,x6_0_1,x6_1_1,x6_2_1,out7_0_1,out7_1_1,t71,t73))
 else
 ((
 letkF (IntKind.i64.wrap (t46 + (1:Int))) fun t74 =>
 some (.inl (t4_0_1,t4_1_1,t4_2_1,x6_0_1,x6_1_1,x6_2_1,out7_0_1,out7_1_1,out7_2_1,t74)))).map .inr
theorem Arr.reshapes.s1.c_le (t44:Int) (t46:Int) (t51:Int) (t4_0_1:Int) (t4_1_1:List Int) (t4_2_1:List Int) (x6_0_1:Int) (x6_1_1:List Int) (x6_2_1:List Int) (out7_0_1:Int) (out7_1_1:List Int) (out7_2_1:List Int) (t53:Int):Le (Arr.reshapes.s1.c t44 t46 t51 t4_0_1 t4_1_1 t4_2_1 x6_0_1 x6_1_1 x6_2_1 out7_0_1 out7_1_1 out7_2_1 t53) (Arr.reshapes.s1 t44 t46 t51 t4_0_1 t4_1_1 t4_2_1 x6_0_1 x6_1_1 x6_2_1 out7_0_1 out7_1_1 out7_2_1 t53):=by
  unfold Arr.reshapes.s1.c Arr.reshapes.s1
  repeat' with_reducible (first | refine Le.letkF (by first | rfl | simp only [Lib.toList_data]) (fun z=>?_) | refine Le.chk ?_ | refine Le.bif ?_ ?_ | refine Le.map ?_ | refine Le.loop (fun s=>?_) | refine Le.bindF ?_ (fun z=>?_) | exact Le.refl _ | (rcases z with ⟨_,_⟩; dsimp only))
noncomputable def Arr.reshapes.l1.c (t44:Int) (t46:Int) (t51:Int) (t4_0_1:Int) (t4_1_1:List Int) (t4_2_1:List Int) (x6_0_1:Int) (x6_1_1:List Int) (x6_2_1:List Int) (out7_0_1:Int) (out7_1_1:List Int) (out7_2_1:List Int) (t53:Int):Option ((Int × (List Int) × (List Int) × Int × (List Int) × (List Int) × Int × (List Int) × (List Int) × Int) ⊕ (api.Array × Int)):=iterO (fun v:Int × (List Int) × (List Int) × Int × (List Int) × (List Int) × Int × (List Int) × (List Int) × Int=>Arr.reshapes.s1.c t44 t46 t51 v.1 v.2.1 v.2.2.1 v.2.2.2.1 v.2.2.2.2.1 v.2.2.2.2.2.1 v.2.2.2.2.2.2.1 v.2.2.2.2.2.2.2.1 v.2.2.2.2.2.2.2.2.1 v.2.2.2.2.2.2.2.2.2) 3000 (t4_0_1,t4_1_1,t4_2_1,x6_0_1,x6_1_1,x6_2_1,out7_0_1,out7_1_1,out7_2_1,t53)
theorem Arr.reshapes.l1.c_le (t44:Int) (t46:Int) (t51:Int) (t4_0_1:Int) (t4_1_1:List Int) (t4_2_1:List Int) (x6_0_1:Int) (x6_1_1:List Int) (x6_2_1:List Int) (out7_0_1:Int) (out7_1_1:List Int) (out7_2_1:List Int) (t53:Int):Le (Arr.reshapes.l1.c t44 t46 t51 t4_0_1 t4_1_1 t4_2_1 x6_0_1 x6_1_1 x6_2_1 out7_0_1 out7_1_1 out7_2_1 t53) (Arr.reshapes.l1 t44 t46 t51 t4_0_1 t4_1_1 t4_2_1 x6_0_1 x6_1_1 x6_2_1 out7_0_1 out7_1_1 out7_2_1 t53):=by
  unfold Arr.reshapes.l1.c Arr.reshapes.l1
  repeat' with_reducible (first | refine Le.letkF (by first | rfl | simp only [Lib.toList_data]) (fun z=>?_) | refine Le.chk ?_ | refine Le.bif ?_ ?_ | refine Le.map ?_ | refine Le.loop (fun s=>?_) | exact Arr.reshapes.s1.c_le .. | refine Le.bindF ?_ (fun z=>?_) | exact Le.refl _ | (rcases z with ⟨_,_⟩; dsimp only))
noncomputable def Arr.reshapes.s0.c (t44:Int) (t4_0:Int) (t4_1:List Int) (t4_2:List Int) (x6_0:Int) (x6_1:List Int) (x6_2:List Int) (out7_0:Int) (out7_1:List Int) (out7_2:List Int) (t46:Int):Option ((Int × (List Int) × (List Int) × Int × (List Int) × (List Int) × Int × (List Int) × (List Int) × Int) ⊕ (api.Array × Int)) :=
 letkF (decide (t46 < t44)) fun t47 =>
 bif t47 then
 chkD (0 ≤ (1:Int)) <|
 bindF (x6_1[(1:Int).toNat]?) fun t51 =>
 Arr.reshapes.l1.c t44 t46 t51 t4_0 t4_1 t4_2 x6_0 x6_1 x6_2 out7_0 out7_1 out7_2 0
 else
 some (.inr ((⟨out7_0,out7_1,out7_2⟩:api.Array),0))
theorem Arr.reshapes.s0.c_le (t44:Int) (t4_0:Int) (t4_1:List Int) (t4_2:List Int) (x6_0:Int) (x6_1:List Int) (x6_2:List Int) (out7_0:Int) (out7_1:List Int) (out7_2:List Int) (t46:Int):Le (Arr.reshapes.s0.c t44 t4_0 t4_1 t4_2 x6_0 x6_1 x6_2 out7_0 out7_1 out7_2 t46) (Arr.reshapes.s0 t44 t4_0 t4_1 t4_2 x6_0 x6_1 x6_2 out7_0 out7_1 out7_2 t46):=by
  unfold Arr.reshapes.s0.c Arr.reshapes.s0
  repeat' with_reducible (first | refine Le.letkF (by first | rfl | simp only [Lib.toList_data]) (fun z=>?_) | refine Le.chk ?_ | refine Le.bif ?_ ?_ | refine Le.map ?_ | refine Le.loop (fun s=>?_) | exact Arr.reshapes.l1.c_le .. | refine Le.bindF ?_ (fun z=>?_) | exact Le.refl _ | (rcases z with ⟨_,_⟩; dsimp only))
noncomputable def Arr.reshapes.l0.c (t44:Int) (t4_0:Int) (t4_1:List Int) (t4_2:List Int) (x6_0:Int) (x6_1:List Int) (x6_2:List Int) (out7_0:Int) (out7_1:List Int) (out7_2:List Int) (t46:Int):Option (api.Array × Int):=iterO (fun v:Int × (List Int) × (List Int) × Int × (List Int) × (List Int) × Int × (List Int) × (List Int) × Int=>Arr.reshapes.s0.c t44 v.1 v.2.1 v.2.2.1 v.2.2.2.1 v.2.2.2.2.1 v.2.2.2.2.2.1 v.2.2.2.2.2.2.1 v.2.2.2.2.2.2.2.1 v.2.2.2.2.2.2.2.2.1 v.2.2.2.2.2.2.2.2.2) 3000 (t4_0,t4_1,t4_2,x6_0,x6_1,x6_2,out7_0,out7_1,out7_2,t46)
theorem Arr.reshapes.l0.c_le (t44:Int) (t4_0:Int) (t4_1:List Int) (t4_2:List Int) (x6_0:Int) (x6_1:List Int) (x6_2:List Int) (out7_0:Int) (out7_1:List Int) (out7_2:List Int) (t46:Int):Le (Arr.reshapes.l0.c t44 t4_0 t4_1 t4_2 x6_0 x6_1 x6_2 out7_0 out7_1 out7_2 t46) (Arr.reshapes.l0 t44 t4_0 t4_1 t4_2 x6_0 x6_1 x6_2 out7_0 out7_1 out7_2 t46):=by
  unfold Arr.reshapes.l0.c Arr.reshapes.l0
  repeat' with_reducible (first | refine Le.letkF (by first | rfl | simp only [Lib.toList_data]) (fun z=>?_) | refine Le.chk ?_ | refine Le.bif ?_ ?_ | refine Le.map ?_ | refine Le.loop (fun s=>?_) | exact Arr.reshapes.s0.c_le .. | refine Le.bindF ?_ (fun z=>?_) | exact Le.refl _ | (rcases z with ⟨_,_⟩; dsimp only))
noncomputable def Arr.reshapes.c (name0:ByteArray) (args1:List api.Array):Option (api.Array × Int) :=
 chkD (0 ≤ (0:Int)) <|
 bindF (args1[(0:Int).toNat]?) fun t11 =>
 letkF (name0.data.toList == (⟨#[114,101,115,104,97,112,101]⟩:ByteArray).data.toList) fun t15 =>
 bif t15 then
 chkD (0 ≤ (1:Int)) <|
 bindF (args1[(1:Int).toNat]?) fun t18 =>
 bindF (Arr.reshape.c (⟨t11.Kind,t11.Shape,t11.Elems⟩:api.Array) t18) fun (t20_0,t20_1) =>
 some ((⟨t20_0.Kind,t20_0.Shape,t20_0.Elems⟩:api.Array),t20_1)
 else
 letkF (name0.data.toList == (⟨#[116,114,97,110,115,112,111,115,101]⟩:ByteArray).data.toList) fun t24 =>
 bif t24 then
 letkF ((t11.Shape.length:Int)) fun t27 =>
 letkF (t27 != (2:Int)) fun t28 =>
 bif t28 then
 some ((⟨0,[],[]⟩:api.Array),71)
 else
 chkD (0 ≤ (1:Int)) <|
 bindF (t11.Shape[(1:Int).toNat]?) fun t34 =>
 chkD (0 ≤ (0:Int)) <|
 bindF (t11.Shape[(0:Int).toNat]?) fun t38 =>
 chkD (0 ≤ (0:Int)) <|
 bindF (t11.Shape[(0:Int).toNat]?) fun t44 =>
 Arr.reshapes.l0.c t44 0 ([]) ([]) t11.Kind t11.Shape t11.Elems t11.Kind ([t34,t38]) ([]) 0
 else
 letkF (name0.data.toList == (⟨#[109,97,116,109,117,108]⟩:ByteArray).data.toList) fun t77 =>
 bif t77 then
 chkD (0 ≤ (1:Int)) <|
 bindF (args1[(1:Int).toNat]?) fun t80 =>
 bindF (Arr.matmul.c (⟨t11.Kind,t11.Shape,t11.Elems⟩:api.Array) t80) fun (t82_0,t82_1) =>
 some ((⟨t82_0.Kind,t82_0.Shape,t82_0.Elems⟩:api.Array),t82_1)
 else
 letkF (name0.data.toList == (⟨#[99,115,104,105,102,116]⟩:ByteArray).data.toList) fun t86 =>
 bif t86 then
 chkD (0 ≤ (1:Int)) <|
 bindF (args1[(1:Int).toNat]?) fun t89 =>
 bindF (Arr.cshift.c (⟨t11.Kind,t11.Shape,t11.Elems⟩:api.Array) t89) fun (t91_0,t91_1) =>
 some ((⟨t91_0.Kind,t91_0.Shape,t91_0.Elems⟩:api.Array),t91_1)
 else
 letkF (name0.data.toList == (⟨#[115,112,114,101,97,100]⟩:ByteArray).data.toList) fun t95 =>
 bif t95 then
 chkD (0 ≤ (1:Int)) <|
 bindF (args1[(1:Int).toNat]?) fun t98 =>
 bindF (Arr.spread.c (⟨t11.Kind,t11.Shape,t11.Elems⟩:api.Array) t98) fun (t100_0,t100_1) =>
 some ((⟨t100_0.Kind,t100_0.Shape,t100_0.Elems⟩:api.Array),t100_1)
 else
 chkD (0 ≤ (1:Int)) <|
 bindF (args1[(1:Int).toNat]?) fun t105 =>
 bindF (Arr.pack.c (⟨t11.Kind,t11.Shape,t11.Elems⟩:api.Array) t105) fun (t107_0,t107_1) =>
 some ((⟨t107_0.Kind,t107_0.Shape,t107_0.Elems⟩:api.Array),t107_1)
theorem Arr.reshapes.c_le (name0:ByteArray) (args1:List api.Array):Le (Arr.reshapes.c name0 args1) (Arr.reshapes name0 args1):=by
  unfold Arr.reshapes.c Arr.reshapes
  repeat' with_reducible (first | refine Le.letkF (by first | rfl | simp only [Lib.toList_data]) (fun z=>?_) | refine Le.chk ?_ | refine Le.bif ?_ ?_ | refine Le.map ?_ | refine Le.loop (fun s=>?_) | exact Arr.reshape.c_le .. | exact Arr.matmul.c_le .. | exact Arr.cshift.c_le .. | exact Arr.spread.c_le .. | exact Arr.pack.c_le .. | exact Arr.reshapes.l0.c_le .. | refine Le.bindF ?_ (fun z=>?_) | exact Le.refl _ | (rcases z with ⟨_,_⟩; dsimp only))
noncomputable def Arr.Call.j3.c (name0:ByteArray) (args1:List api.Array) (t4_0:Int) (t4_1:List Int) (t4_2:List Int) (t65:Bool):Option (api.Array × Int) :=
 bif t65 then
 chkD (0 ≤ (0:Int)) <|
 bindF (args1[(0:Int).toNat]?) fun t70 =>
 none
 else
 bindF (Arr.reshapes.c name0 args1) fun (t77_0,t77_1) =>
 some ((⟨t77_0.Kind,t77_0.Shape,t77_0.Elems⟩:api.Array),t77_1)
theorem Arr.Call.j3.c_le (name0:ByteArray) (args1:List api.Array) (t4_0:Int) (t4_1:List Int) (t4_2:List Int) (t65:Bool):Le (Arr.Call.j3.c name0 args1 t4_0 t4_1 t4_2 t65) (Arr.Call.j3 name0 args1 t4_0 t4_1 t4_2 t65):=by
  unfold Arr.Call.j3.c Arr.Call.j3
  repeat' with_reducible (first | refine Le.letkF (by first | rfl | simp only [Lib.toList_data]) (fun z=>?_) | refine Le.chk ?_ | refine Le.bif ?_ ?_ | refine Le.map ?_ | refine Le.loop (fun s=>?_) | exact Arr.reshapes.c_le .. | refine Le.bindF ?_ (fun z=>?_) | exact Le.refl _ | (rcases z with ⟨_,_⟩; dsimp only))
noncomputable def Arr.Call.j2.c (name0:ByteArray) (args1:List api.Array) (t4_0:Int) (t4_1:List Int) (t4_2:List Int) (t48:Bool):Option (api.Array × Int) :=
 bif t48 then
 chkD (0 ≤ (0:Int)) <|
 bindF (args1[(0:Int).toNat]?) fun t60 =>
 bindF (Arr.reduce.c name0 t60) fun (t62_0,t62_1) =>
 some ((⟨t62_0.Kind,t62_0.Shape,t62_0.Elems⟩:api.Array),t62_1)
 else
 letkF (name0.data.toList == (⟨#[109,97,120,108,111,99]⟩:ByteArray).data.toList) fun t66 =>
 bif t66 then
 Arr.Call.j3.c name0 args1 t4_0 t4_1 t4_2 true
 else
 letkF (name0.data.toList == (⟨#[109,105,110,108,111,99]⟩:ByteArray).data.toList) fun t67 =>
 Arr.Call.j3.c name0 args1 t4_0 t4_1 t4_2 t67
theorem Arr.Call.j2.c_le (name0:ByteArray) (args1:List api.Array) (t4_0:Int) (t4_1:List Int) (t4_2:List Int) (t48:Bool):Le (Arr.Call.j2.c name0 args1 t4_0 t4_1 t4_2 t48) (Arr.Call.j2 name0 args1 t4_0 t4_1 t4_2 t48):=by
  unfold Arr.Call.j2.c Arr.Call.j2
  repeat' with_reducible (first | refine Le.letkF (by first | rfl | simp only [Lib.toList_data]) (fun z=>?_) | refine Le.chk ?_ | refine Le.bif ?_ ?_ | refine Le.map ?_ | refine Le.loop (fun s=>?_) | exact Arr.reduce.c_le .. | exact Arr.Call.j3.c_le .. | refine Le.bindF ?_ (fun z=>?_) | exact Le.refl _ | (rcases z with ⟨_,_⟩; dsimp only))
noncomputable def Arr.Call.j1.c (name0:ByteArray) (args1:List api.Array) (t4_0:Int) (t4_1:List Int) (t4_2:List Int) (t33:Bool):Option (api.Array × Int) :=
 bif t33 then
 none
 else
 letkF (name0.data.toList == (⟨#[115,117,109]⟩:ByteArray).data.toList) fun t49 =>
 bif t49 then
 Arr.Call.j2.c name0 args1 t4_0 t4_1 t4_2 true
 else
 letkF (name0.data.toList == (⟨#[112,114,111,100,117,99,116]⟩:ByteArray).data.toList) fun t50 =>
 bif t50 then
 Arr.Call.j2.c name0 args1 t4_0 t4_1 t4_2 true
 else
 letkF (name0.data.toList == (⟨#[109,97,120,118,97,108]⟩:ByteArray).data.toList) fun t51 =>
 bif t51 then
 Arr.Call.j2.c name0 args1 t4_0 t4_1 t4_2 true
 else
 letkF (name0.data.toList == (⟨#[109,105,110,118,97,108]⟩:ByteArray).data.toList) fun t52 =>
 bif t52 then
 Arr.Call.j2.c name0 args1 t4_0 t4_1 t4_2 true
 else
 letkF (name0.data.toList == (⟨#[97,108,108]⟩:ByteArray).data.toList) fun t53 =>
 bif t53 then
 Arr.Call.j2.c name0 args1 t4_0 t4_1 t4_2 true
 else
 letkF (name0.data.toList == (⟨#[97,110,121]⟩:ByteArray).data.toList) fun t54 =>
 bif t54 then
 Arr.Call.j2.c name0 args1 t4_0 t4_1 t4_2 true
 else
 letkF (name0.data.toList == (⟨#[99,111,117,110,116]⟩:ByteArray).data.toList) fun t55 =>
 bif t55 then
 Arr.Call.j2.c name0 args1 t4_0 t4_1 t4_2 true
 else
 letkF (name0.data.toList == (⟨#[115,105,122,101]⟩:ByteArray).data.toList) fun t56 =>
 bif t56 then
 Arr.Call.j2.c name0 args1 t4_0 t4_1 t4_2 true
 else
 letkF (name0.data.toList == (⟨#[115,104,97,112,101]⟩:ByteArray).data.toList) fun t57 =>
 Arr.Call.j2.c name0 args1 t4_0 t4_1 t4_2 t57
theorem Arr.Call.j1.c_le (name0:ByteArray) (args1:List api.Array) (t4_0:Int) (t4_1:List Int) (t4_2:List Int) (t33:Bool):Le (Arr.Call.j1.c name0 args1 t4_0 t4_1 t4_2 t33) (Arr.Call.j1 name0 args1 t4_0 t4_1 t4_2 t33):=by
  unfold Arr.Call.j1.c Arr.Call.j1
  repeat' with_reducible (first | refine Le.letkF (by first | rfl | simp only [Lib.toList_data]) (fun z=>?_) | refine Le.chk ?_ | refine Le.bif ?_ ?_ | refine Le.map ?_ | refine Le.loop (fun s=>?_) | exact Arr.Call.j2.c_le .. | refine Le.bindF ?_ (fun z=>?_) | exact Le.refl _ | (rcases z with ⟨_,_⟩; dsimp only))
noncomputable def Arr.Call.j0.c (name0:ByteArray) (args1:List api.Array) (t4_0:Int) (t4_1:List Int) (t4_2:List Int):Option (api.Array × Int) :=
 letkF (name0.data.toList == (⟨#[97,98,115]⟩:ByteArray).data.toList) fun t34 =>
 bif t34 then
 Arr.Call.j1.c name0 args1 t4_0 t4_1 t4_2 true
 else
 letkF (name0.data.toList == (⟨#[105,110,116]⟩:ByteArray).data.toList) fun t35 =>
 bif t35 then
 Arr.Call.j1.c name0 args1 t4_0 t4_1 t4_2 true
 else
 letkF (name0.data.toList == (⟨#[114,101,97,108]⟩:ByteArray).data.toList) fun t36 =>
 bif t36 then
 Arr.Call.j1.c name0 args1 t4_0 t4_1 t4_2 true
 else
 letkF (name0.data.toList == (⟨#[100,98,108,101]⟩:ByteArray).data.toList) fun t37 =>
 bif t37 then
 Arr.Call.j1.c name0 args1 t4_0 t4_1 t4_2 true
 else
 letkF (name0.data.toList == (⟨#[109,111,100]⟩:ByteArray).data.toList) fun t38 =>
 bif t38 then
 Arr.Call.j1.c name0 args1 t4_0 t4_1 t4_2 true
 else
 letkF (name0.data.toList == (⟨#[109,105,110]⟩:ByteArray).data.toList) fun t39 =>
 bif t39 then
 Arr.Call.j1.c name0 args1 t4_0 t4_1 t4_2 true
 else
 letkF (name0.data.toList == (⟨#[109,97,120]⟩:ByteArray).data.toList) fun t40 =>
 bif t40 then
 Arr.Call.j1.c name0 args1 t4_0 t4_1 t4_2 true
 else
 letkF (name0.data.toList == (⟨#[109,101,114,103,101]⟩:ByteArray).data.toList) fun t41 =>
 bif t41 then
 Arr.Call.j1.c name0 args1 t4_0 t4_1 t4_2 true
 else
 letkF (name0.data.toList == (⟨#[115,113,114,116]⟩:ByteArray).data.toList) fun t42 =>
 Arr.Call.j1.c name0 args1 t4_0 t4_1 t4_2 t42
theorem Arr.Call.j0.c_le (name0:ByteArray) (args1:List api.Array) (t4_0:Int) (t4_1:List Int) (t4_2:List Int):Le (Arr.Call.j0.c name0 args1 t4_0 t4_1 t4_2) (Arr.Call.j0 name0 args1 t4_0 t4_1 t4_2):=by
  unfold Arr.Call.j0.c Arr.Call.j0
  repeat' with_reducible (first | refine Le.letkF (by first | rfl | simp only [Lib.toList_data]) (fun z=>?_) | refine Le.chk ?_ | refine Le.bif ?_ ?_ | refine Le.map ?_ | refine Le.loop (fun s=>?_) | exact Arr.Call.j1.c_le .. | refine Le.bindF ?_ (fun z=>?_) | exact Le.refl _ | (rcases z with ⟨_,_⟩; dsimp only))
noncomputable def Arr.Call.j4.c (name0:ByteArray) (args1:List api.Array) (t4_0_1:Int) (t4_1_1:List Int) (t4_2_1:List Int) (t30:Bool):Option (api.Array × Int) :=
 bif t30 then
 some ((⟨0,[],[]⟩:api.Array),2)
 else
 Arr.Call.j0.c name0 args1 t4_0_1 t4_1_1 t4_2_1
theorem Arr.Call.j4.c_le (name0:ByteArray) (args1:List api.Array) (t4_0_1:Int) (t4_1_1:List Int) (t4_2_1:List Int) (t30:Bool):Le (Arr.Call.j4.c name0 args1 t4_0_1 t4_1_1 t4_2_1 t30) (Arr.Call.j4 name0 args1 t4_0_1 t4_1_1 t4_2_1 t30):=by
  unfold Arr.Call.j4.c Arr.Call.j4
  repeat' with_reducible (first | refine Le.letkF (by first | rfl | simp only [Lib.toList_data]) (fun z=>?_) | refine Le.chk ?_ | refine Le.bif ?_ ?_ | refine Le.map ?_ | refine Le.loop (fun s=>?_) | exact Arr.Call.j0.c_le .. | refine Le.bindF ?_ (fun z=>?_) | exact Le.refl _ | (rcases z with ⟨_,_⟩; dsimp only))
noncomputable def Arr.Call.c (name0:ByteArray) (args1:List api.Array):Option (api.Array × Int) :=
 bindF (Arr.Arity.c name0) fun (t10_0,t10_1) =>
 letkF (t10_1 == (0:Int)) fun t14 =>
 bif t14 then
 Arr.Call.j4.c name0 args1 0 ([]) ([]) true
 else
 letkF ((args1.length:Int)) fun t17 =>
 letkF (decide (t17 < t10_0)) fun t19 =>
 bif t19 then
 Arr.Call.j4.c name0 args1 0 ([]) ([]) true
 else
 letkF ((args1.length:Int)) fun t23 =>
 letkF (decide (t23 > t10_1)) fun t25 =>
 bif t25 then
 Arr.Call.j4.c name0 args1 0 ([]) ([]) true
 else
 bindF (Slcs.ContainsFunc___quadrat_api.Array_quadrat_api.Array_.c args1 Arr.Call_1.c) fun t29 =>
 Arr.Call.j4.c name0 args1 0 ([]) ([]) t29
theorem Arr.Call.c_le (name0:ByteArray) (args1:List api.Array):Le (Arr.Call.c name0 args1) (Arr.Call name0 args1):=by
  unfold Arr.Call.c Arr.Call
  repeat' with_reducible (first | refine Le.letkF (by first | rfl | simp only [Lib.toList_data]) (fun z=>?_) | refine Le.chk ?_ | refine Le.bif ?_ ?_ | refine Le.map ?_ | refine Le.loop (fun s=>?_) | exact Arr.Arity.c_le .. | refine Slcs.ContainsFunc___quadrat_api.Array_quadrat_api.Array_.c_le _ _ _ (fun _=>?_) | exact Arr.Call_1.c_le .. | exact Arr.Call.j4.c_le .. | refine Le.bindF ?_ (fun z=>?_) | exact Le.refl _ | (rcases z with ⟨_,_⟩; dsimp only))
noncomputable def Law7.Awake.c :Option Bool :=
 bindF (Arr.Call.c ⟨#[109,97,116,109,117,108]⟩ ([(⟨1,[2,2],[1,2,3,4]⟩:api.Array),(⟨1,[2],[5,6]⟩:api.Array)])) fun (t15_0,t15_1) =>
 letkF (t15_1 == (0:Int)) fun t19 =>
 bif t19 then
 letkF ((t15_0.Elems.length:Int)) fun t23 =>
 letkF (t23 == (2:Int)) fun t24 =>
 bif t24 then
 chkD (0 ≤ (0:Int)) <|
 bindF (t15_0.Elems[(0:Int).toNat]?) fun t29 =>
 letkF (t29 == (23:Int)) fun t31 =>
 bif t31 then
 chkD (0 ≤ (1:Int)) <|
 bindF (t15_0.Elems[(1:Int).toNat]?) fun t36 =>
 letkF (t36 == (34:Int)) fun t38 =>
 some t38
 else
 some false
 else
 some false
 else
 some false
theorem Law7.Awake.c_le:Le (Law7.Awake.c) (Law7.Awake):=by
  unfold Law7.Awake.c Law7.Awake
  repeat' with_reducible (first | refine Le.letkF (by first | rfl | simp only [Lib.toList_data]) (fun z=>?_) | refine Le.chk ?_ | refine Le.bif ?_ ?_ | refine Le.map ?_ | refine Le.loop (fun s=>?_) | exact Arr.Call.c_le .. | refine Le.bindF ?_ (fun z=>?_) | exact Le.refl _ | (rcases z with ⟨_,_⟩; dsimp only))
set_option maxRecDepth 1000000 in
theorem Law7.Awake_eq:Law7.Awake = some true:=Law7.Awake.c_le.of (by kernel_rfl)
end Go.Q
