import Derived.Test.YtoecgpemlfoogaaGreatDoorGN11
import Derived.Test.YtoecgpemlfoogaaGreatDoorFX
namespace Go.Q
open Go
set_option maxRecDepth 10000
noncomputable instance:Fc api.Line:=⟨fun x k=>api.Line.rec (motive:=fun _=>_) (fun a b c=>Fc.fc a fun a=>Fc.fc b fun b=>Fc.fc c fun c=>k ⟨a,b,c⟩) x,fun x k=>by cases x; simp only [Fc.eq]⟩
theorem Le.chk2 {ρ:Type} {c d:Prop} [Decidable c] {a b:Option ρ} (hcd:c → d) (h:Le a b):Le (chkD c a) (Go.Q.chk d b):=by
  intro r e
  unfold chkD at e
  unfold Go.Q.chk
  by_cases hc:c
  · rw [if_pos (hcd hc)]; rw [decide_eq_true hc] at e; exact h r e
  · rw [decide_eq_false hc] at e; cases e
theorem byte1 {t:ByteArray} (h:t.data.toList = [32]):t = ⟨#[32]⟩:=by
  obtain ⟨⟨l⟩⟩:=t
  simp only at h
  subst h; rfl
def Balg.IndexByteString.c (s:ByteArray) (c:Int):Option Int:=some (Lib.indexByte (L s) c.toNat.toUInt8)
theorem Balg.IndexByteString.c_le (s:ByteArray) (c:Int):Le (Balg.IndexByteString.c s c) (Balg.IndexByteString s c):=Le.refl _
def Strs.TrimLeft.c (s t:ByteArray):Option ByteArray:=chkD (t.data.toList = [32]) (some (B (Lib.trimLeftB (L s) 32)))
theorem Strs.TrimLeft.c_le (s t:ByteArray):Le (Strs.TrimLeft.c s t) (Strs.TrimLeft s t):=Le.chk2 byte1 (Le.refl _)
def Strs.Trim.c (s t:ByteArray):Option ByteArray:=chkD (s.size ≤ 9223372036854775807 ∧ t.data.toList = [32]) (some (B (Lib.trimB (L s) 32)))
theorem Strs.Trim.c_le (s t:ByteArray):Le (Strs.Trim.c s t) (Strs.Trim s t):=Le.chk2 (fun h=>⟨h.1,byte1 h.2⟩) (Le.refl _)
def Strs.Split.c (s t:ByteArray):Option (List ByteArray):=chkD (s.size < 4294967281 ∧ 1 ≤ t.size) (some (Lib.splitB t 0 (Lib.countB s t) s))
theorem Strs.Split.c_le (s t:ByteArray):Le (Strs.Split.c s t) (Strs.Split s t):=Le.chk (Le.refl _)
def Strs.Repeat.c (s:ByteArray) (c:Int):Option ByteArray:=chkD (0 ≤ c ∧ c ≤ 9223372036854775807 ∧ s.size * c.toNat ≤ 140737488355328) (some (B (Lib.repeatL (L s) c.toNat)))
theorem Strs.Repeat.c_le (s:ByteArray) (c:Int):Le (Strs.Repeat.c s c) (Strs.Repeat s c):=Le.chk (Le.refl _)
def Strconv.Atoi.c (s:ByteArray):Option (Int × Bool):=chkD (s.size ≤ 281474976710656) (some (match Lib.atoiAll (L s) with | .ok v=>(v,true) | Lib.NumEnd.syntax=>(0,false) | .range=>(Lib.atoiSat (L s),false)))
theorem Strconv.Atoi.c_le (s:ByteArray):Le (Strconv.Atoi.c s) (Strconv.Atoi s):=by
  unfold Strconv.Atoi.c Strconv.Atoi
  exact Le.chk (Le.refl _)
noncomputable def Slite.HasSuffix.c (s0:ByteArray) (suffix1:ByteArray):Option Bool :=
 letkF ((s0.size:Int)) fun t6 =>
 letkF ((suffix1.size:Int)) fun t8 =>
 letkF (decide (t6 ≥ t8)) fun t9 =>
 bif t9 then
 letkF ((s0.size:Int)) fun t13 =>
 letkF ((suffix1.size:Int)) fun t15 =>
 letkF (IntKind.i64.wrap (t13 - t15)) fun t16 =>
 chkD (0 ≤ t16 ∧ t16 ≤ (s0.size:Int)) <|
 letkF (s0.extract t16.toNat s0.size) fun t17 =>
 letkF (t17.data.toList == suffix1.data.toList) fun t19 =>
 some t19
 else
 some false
theorem Slite.HasSuffix.c_le (s0:ByteArray) (suffix1:ByteArray):Le (Slite.HasSuffix.c s0 suffix1) (Slite.HasSuffix s0 suffix1):=by
  unfold Slite.HasSuffix.c Slite.HasSuffix
  repeat' with_reducible (first | refine Le.letkF (by first | rfl | simp only [Lib.toList_data]) (fun z=>?_) | refine Le.chk ?_ | refine Le.bif ?_ ?_ | refine Le.map ?_ | refine Le.loop (fun s=>?_) | refine Le.bindF ?_ (fun z=>?_) | exact Le.refl _ | (rcases z with ⟨_,_⟩; dsimp only))
noncomputable def Slite.TrimSuffix.c (s0:ByteArray) (suffix1:ByteArray):Option ByteArray :=
 bindF (Slite.HasSuffix.c s0 suffix1) fun t7 =>
 bif t7 then
 letkF ((s0.size:Int)) fun t10 =>
 letkF ((suffix1.size:Int)) fun t12 =>
 letkF (IntKind.i64.wrap (t10 - t12)) fun t13 =>
 chkD (0 ≤ t13 ∧ t13 ≤ (s0.size:Int)) <|
 letkF (s0.extract 0 t13.toNat) fun t14 =>
 some t14
 else
 some s0
theorem Slite.TrimSuffix.c_le (s0:ByteArray) (suffix1:ByteArray):Le (Slite.TrimSuffix.c s0 suffix1) (Slite.TrimSuffix s0 suffix1):=by
  unfold Slite.TrimSuffix.c Slite.TrimSuffix
  repeat' with_reducible (first | refine Le.letkF (by first | rfl | simp only [Lib.toList_data]) (fun z=>?_) | refine Le.chk ?_ | refine Le.bif ?_ ?_ | refine Le.map ?_ | refine Le.loop (fun s=>?_) | exact Slite.HasSuffix.c_le .. | refine Le.bindF ?_ (fun z=>?_) | exact Le.refl _ | (rcases z with ⟨_,_⟩; dsimp only))
noncomputable def Strs.TrimSuffix.c (s0:ByteArray) (suffix1:ByteArray):Option ByteArray :=
 bindF (Slite.TrimSuffix.c s0 suffix1) fun t7 =>
 some t7
theorem Strs.TrimSuffix.c_le (s0:ByteArray) (suffix1:ByteArray):Le (Strs.TrimSuffix.c s0 suffix1) (Strs.TrimSuffix s0 suffix1):=by
  unfold Strs.TrimSuffix.c Strs.TrimSuffix
  repeat' with_reducible (first | refine Le.letkF (by first | rfl | simp only [Lib.toList_data]) (fun z=>?_) | refine Le.chk ?_ | refine Le.bif ?_ ?_ | refine Le.map ?_ | refine Le.loop (fun s=>?_) | exact Slite.TrimSuffix.c_le .. | refine Le.bindF ?_ (fun z=>?_) | exact Le.refl _ | (rcases z with ⟨_,_⟩; dsimp only))
noncomputable def Src.lines.c (text0:ByteArray):Option ((List ByteArray)) :=
 letkF (text0.data.toList == (⟨#[]⟩:ByteArray).data.toList) fun t4 =>
 bif t4 then
 some ([])
 else
 bindF (Strs.TrimSuffix.c text0 ⟨#[10]⟩) fun t6 =>
 bindF (Strs.Split.c t6 ⟨#[10]⟩) fun t7 =>
 some t7
theorem Src.lines.c_le (text0:ByteArray):Le (Src.lines.c text0) (Src.lines text0):=by
  unfold Src.lines.c Src.lines
  repeat' with_reducible (first | refine Le.letkF (by first | rfl | simp only [Lib.toList_data]) (fun z=>?_) | refine Le.chk ?_ | refine Le.bif ?_ ?_ | refine Le.map ?_ | refine Le.loop (fun s=>?_) | exact Strs.TrimSuffix.c_le .. | exact Strs.Split.c_le .. | refine Le.bindF ?_ (fun z=>?_) | exact Le.refl _ | (rcases z with ⟨_,_⟩; dsimp only))
noncomputable def Src.isText.s0.c (t6:List Int) (t7:Int) (t8:Int):Option (Int ⊕ Bool) :=
 letkF (decide (t8 < t7)) fun t9 =>
 bif t9 then
 chkD (0 ≤ t8 ∧ t8 < (t6.length:Int)) <|
 letkF (0 + t8.toNat) fun t10 =>
 bindF (t6[t10]?) fun t11 =>
 letkF (decide (t11 < (32:Int))) fun t13 =>
 bif t13 then
 some (.inr false)
 else
 letkF (decide (t11 > (126:Int))) fun t16 =>
 bif t16 then
 some (.inr false)
 else
 letkF (IntKind.i64.wrap (t8 + (1:Int))) fun t18 =>
 some (.inl t18)
 else
 some (.inr true)
theorem Src.isText.s0.c_le (t6:List Int) (t7:Int) (t8:Int):Le (Src.isText.s0.c t6 t7 t8) (Src.isText.s0 t6 t7 t8):=by
  unfold Src.isText.s0.c Src.isText.s0
  repeat' with_reducible (first | refine Le.letkF (by first | rfl | simp only [Lib.toList_data]) (fun z=>?_) | refine Le.chk ?_ | refine Le.bif ?_ ?_ | refine Le.map ?_ | refine Le.loop (fun s=>?_) | refine Le.bindF ?_ (fun z=>?_) | exact Le.refl _ | (rcases z with ⟨_,_⟩; dsimp only))
noncomputable def Src.isText.l0.c (t6:List Int) (t7:Int) (t8:Int):Option Bool:=iterO (fun v:Int=>Src.isText.s0.c t6 t7 v) 3000 t8
theorem Src.isText.l0.c_le (t6:List Int) (t7:Int) (t8:Int):Le (Src.isText.l0.c t6 t7 t8) (Src.isText.l0 t6 t7 t8):=by
  unfold Src.isText.l0.c Src.isText.l0
  repeat' with_reducible (first | refine Le.letkF (by first | rfl | simp only [Lib.toList_data]) (fun z=>?_) | refine Le.chk ?_ | refine Le.bif ?_ ?_ | refine Le.map ?_ | refine Le.loop (fun s=>?_) | exact Src.isText.s0.c_le .. | refine Le.bindF ?_ (fun z=>?_) | exact Le.refl _ | (rcases z with ⟨_,_⟩; dsimp only))
noncomputable def Src.isText.c (s0:ByteArray):Option Bool :=
 letkF (bytesI s0) fun t6 =>
 letkF ((t6.length:Int)) fun t7 =>
 Src.isText.l0.c t6 t7 0
theorem Src.isText.c_le (s0:ByteArray):Le (Src.isText.c s0) (Src.isText s0):=by
  unfold Src.isText.c Src.isText
  repeat' with_reducible (first | refine Le.letkF (by first | rfl | simp only [Lib.toList_data]) (fun z=>?_) | refine Le.chk ?_ | refine Le.bif ?_ ?_ | refine Le.map ?_ | refine Le.loop (fun s=>?_) | exact Src.isText.l0.c_le .. | refine Le.bindF ?_ (fun z=>?_) | exact Le.refl _ | (rcases z with ⟨_,_⟩; dsimp only))
noncomputable def Src.reader.fail.j0.c (r0_0:List api.Line) (r0_1:Int) (r0_3:Int) (r0_4:Int) (r0_5:ByteArray) (r0_6:Int) (at1:Int) (r0_2_1:Bool) (t16:Bool):Option ((List api.Line) × Int × Bool × Int × Int × ByteArray × Int) :=
 bif t16 then
 some (r0_0,at1,r0_2_1,r0_3,r0_4,r0_5,r0_6)
 else
 some (r0_0,r0_1,r0_2_1,r0_3,r0_4,r0_5,r0_6)
theorem Src.reader.fail.j0.c_le (r0_0:List api.Line) (r0_1:Int) (r0_3:Int) (r0_4:Int) (r0_5:ByteArray) (r0_6:Int) (at1:Int) (r0_2_1:Bool) (t16:Bool):Le (Src.reader.fail.j0.c r0_0 r0_1 r0_3 r0_4 r0_5 r0_6 at1 r0_2_1 t16) (Src.reader.fail.j0 r0_0 r0_1 r0_3 r0_4 r0_5 r0_6 at1 r0_2_1 t16):=by
  unfold Src.reader.fail.j0.c Src.reader.fail.j0
  repeat' with_reducible (first | refine Le.letkF (by first | rfl | simp only [Lib.toList_data]) (fun z=>?_) | refine Le.chk ?_ | refine Le.bif ?_ ?_ | refine Le.map ?_ | refine Le.loop (fun s=>?_) | refine Le.bindF ?_ (fun z=>?_) | exact Le.refl _ | (rcases z with ⟨_,_⟩; dsimp only))
noncomputable def Src.reader.fail.c (r0_0:List api.Line) (r0_1:Int) (r0_2:Bool) (r0_3:Int) (r0_4:Int) (r0_5:ByteArray) (r0_6:Int) (at1:Int):Option ((List api.Line) × Int × Bool × Int × Int × ByteArray × Int) :=
 letkF (r0_1 == (0:Int)) fun t8 =>
 bif t8 then
 Src.reader.fail.j0.c r0_0 r0_1 r0_3 r0_4 r0_5 r0_6 at1 r0_2 true
 else
 letkF (decide (at1 < r0_1)) fun t15 =>
 Src.reader.fail.j0.c r0_0 r0_1 r0_3 r0_4 r0_5 r0_6 at1 r0_2 t15
theorem Src.reader.fail.c_le (r0_0:List api.Line) (r0_1:Int) (r0_2:Bool) (r0_3:Int) (r0_4:Int) (r0_5:ByteArray) (r0_6:Int) (at1:Int):Le (Src.reader.fail.c r0_0 r0_1 r0_2 r0_3 r0_4 r0_5 r0_6 at1) (Src.reader.fail r0_0 r0_1 r0_2 r0_3 r0_4 r0_5 r0_6 at1):=by
  unfold Src.reader.fail.c Src.reader.fail
  repeat' with_reducible (first | refine Le.letkF (by first | rfl | simp only [Lib.toList_data]) (fun z=>?_) | refine Le.chk ?_ | refine Le.bif ?_ ?_ | refine Le.map ?_ | refine Le.loop (fun s=>?_) | exact Src.reader.fail.j0.c_le .. | refine Le.bindF ?_ (fun z=>?_) | exact Le.refl _ | (rcases z with ⟨_,_⟩; dsimp only))
noncomputable def Slite.IndexByte.c (s0:ByteArray) (c1:Int):Option Int :=
 bindF (Balg.IndexByteString.c s0 c1) fun t7 =>
 some t7
theorem Slite.IndexByte.c_le (s0:ByteArray) (c1:Int):Le (Slite.IndexByte.c s0 c1) (Slite.IndexByte s0 c1):=by
  unfold Slite.IndexByte.c Slite.IndexByte
  repeat' with_reducible (first | refine Le.letkF (by first | rfl | simp only [Lib.toList_data]) (fun z=>?_) | refine Le.chk ?_ | refine Le.bif ?_ ?_ | refine Le.map ?_ | refine Le.loop (fun s=>?_) | exact Balg.IndexByteString.c_le .. | refine Le.bindF ?_ (fun z=>?_) | exact Le.refl _ | (rcases z with ⟨_,_⟩; dsimp only))
noncomputable def Strs.IndexByte.c (s0:ByteArray) (c1:Int):Option Int :=
 bindF (Slite.IndexByte.c s0 c1) fun t7 =>
 some t7
theorem Strs.IndexByte.c_le (s0:ByteArray) (c1:Int):Le (Strs.IndexByte.c s0 c1) (Strs.IndexByte s0 c1):=by
  unfold Strs.IndexByte.c Strs.IndexByte
  repeat' with_reducible (first | refine Le.letkF (by first | rfl | simp only [Lib.toList_data]) (fun z=>?_) | refine Le.chk ?_ | refine Le.bif ?_ ?_ | refine Le.map ?_ | refine Le.loop (fun s=>?_) | exact Slite.IndexByte.c_le .. | refine Le.bindF ?_ (fun z=>?_) | exact Le.refl _ | (rcases z with ⟨_,_⟩; dsimp only))
noncomputable def Src.Comment.c (line0:ByteArray) (old1:Bool):Option Bool :=
 bindF (Strs.TrimLeft.c line0 ⟨#[32]⟩) fun t7 =>
 bif old1 then
 letkF (t7.data.toList == (⟨#[]⟩:ByteArray).data.toList) fun t10 =>
 bif t10 then
 some true
 else
 chkD (0 ≤ (0:Int) ∧ (0:Int) < (line0.size:Int)) <|
 letkF (bt line0 (0:Int)) fun t13 =>
 bindF (Strs.IndexByte.c ⟨#[67,99,42,33]⟩ t13) fun t14 =>
 letkF (decide (t14 ≥ (0:Int))) fun t15 =>
 some t15
 else
 letkF (t7.data.toList == (⟨#[]⟩:ByteArray).data.toList) fun t18 =>
 bif t18 then
 some true
 else
 chkD (0 ≤ (0:Int) ∧ (0:Int) < (t7.size:Int)) <|
 letkF (bt t7 (0:Int)) fun t21 =>
 letkF (t21 == (33:Int)) fun t22 =>
 some t22
theorem Src.Comment.c_le (line0:ByteArray) (old1:Bool):Le (Src.Comment.c line0 old1) (Src.Comment line0 old1):=by
  unfold Src.Comment.c Src.Comment
  repeat' with_reducible (first | refine Le.letkF (by first | rfl | simp only [Lib.toList_data]) (fun z=>?_) | refine Le.chk ?_ | refine Le.bif ?_ ?_ | refine Le.map ?_ | refine Le.loop (fun s=>?_) | exact Strs.IndexByte.c_le .. | exact Strs.TrimLeft.c_le .. | refine Le.bindF ?_ (fun z=>?_) | exact Le.refl _ | (rcases z with ⟨_,_⟩; dsimp only))
noncomputable def Src.quote.next_.j0.c (q0:Int) (c1:Int) (t5:Bool):Option Int :=
 bif t5 then
 some c1
 else
 letkF (q0 == c1) fun t20 =>
 bif t20 then
 some 0
 else
 some q0
theorem Src.quote.next_.j0.c_le (q0:Int) (c1:Int) (t5:Bool):Le (Src.quote.next_.j0.c q0 c1 t5) (Src.quote.next_.j0 q0 c1 t5):=by
  unfold Src.quote.next_.j0.c Src.quote.next_.j0
  repeat' with_reducible (first | refine Le.letkF (by first | rfl | simp only [Lib.toList_data]) (fun z=>?_) | refine Le.chk ?_ | refine Le.bif ?_ ?_ | refine Le.map ?_ | refine Le.loop (fun s=>?_) | refine Le.bindF ?_ (fun z=>?_) | exact Le.refl _ | (rcases z with ⟨_,_⟩; dsimp only))
noncomputable def Src.quote.next_.c (q0:Int) (c1:Int):Option Int :=
 letkF (q0 == (0:Int)) fun t7 =>
 bif t7 then
 letkF (c1 == (39:Int)) fun t10 =>
 bif t10 then
 Src.quote.next_.j0.c q0 c1 true
 else
 letkF (c1 == (34:Int)) fun t13 =>
 Src.quote.next_.j0.c q0 c1 t13
 else
 Src.quote.next_.j0.c q0 c1 false
theorem Src.quote.next_.c_le (q0:Int) (c1:Int):Le (Src.quote.next_.c q0 c1) (Src.quote.next_ q0 c1):=by
  unfold Src.quote.next_.c Src.quote.next_
  repeat' with_reducible (first | refine Le.letkF (by first | rfl | simp only [Lib.toList_data]) (fun z=>?_) | refine Le.chk ?_ | refine Le.bif ?_ ?_ | refine Le.map ?_ | refine Le.loop (fun s=>?_) | exact Src.quote.next_.j0.c_le .. | refine Le.bindF ?_ (fun z=>?_) | exact Le.refl _ | (rcases z with ⟨_,_⟩; dsimp only))
noncomputable def Src.find.s0.c (bytes1:ByteArray) (t12:Int) (q2_1:Int) (t11_1:List Int) (t13:Int):Option ((Int × (List Int) × Int) ⊕ (Int × Int)) :=
 letkF (decide (t13 < t12)) fun t14 =>
 bif t14 then
 chkD (0 ≤ t13 ∧ t13 < (t11_1.length:Int)) <|
 letkF (0 + t13.toNat) fun t16 =>
 bindF (t11_1[t16]?) fun t17 =>
 letkF (q2_1 == (0:Int)) fun t19 =>
 bif t19 then
 bindF (Strs.IndexByte.c bytes1 t17) fun t23 =>
 letkF (decide (t23 ≥ (0:Int))) fun t24 =>
 bif t24 then
 some (.inr (t13,q2_1))
 else
 bindF (Src.quote.next_.c q2_1 t17) fun t30_1 =>
 letkF (IntKind.i64.wrap (t13 + (1:Int))) fun t31_1 =>
 some (.inl (t30_1,t11_1,t31_1))
 else
 bindF (Src.quote.next_.c q2_1 t17) fun t30 =>
 letkF (IntKind.i64.wrap (t13 + (1:Int))) fun t31 =>
 some (.inl (t30,t11_1,t31))
 else
 some (.inr ((-1),q2_1))
theorem Src.find.s0.c_le (bytes1:ByteArray) (t12:Int) (q2_1:Int) (t11_1:List Int) (t13:Int):Le (Src.find.s0.c bytes1 t12 q2_1 t11_1 t13) (Src.find.s0 bytes1 t12 q2_1 t11_1 t13):=by
  unfold Src.find.s0.c Src.find.s0
  repeat' with_reducible (first | refine Le.letkF (by first | rfl | simp only [Lib.toList_data]) (fun z=>?_) | refine Le.chk ?_ | refine Le.bif ?_ ?_ | refine Le.map ?_ | refine Le.loop (fun s=>?_) | exact Strs.IndexByte.c_le .. | exact Src.quote.next_.c_le .. | refine Le.bindF ?_ (fun z=>?_) | exact Le.refl _ | (rcases z with ⟨_,_⟩; dsimp only))
noncomputable def Src.find.l0.c (bytes1:ByteArray) (t12:Int) (q2_1:Int) (t11_1:List Int) (t13:Int):Option (Int × Int):=iterO (fun v:Int × (List Int) × Int=>Src.find.s0.c bytes1 t12 v.1 v.2.1 v.2.2) 3000 (q2_1,t11_1,t13)
theorem Src.find.l0.c_le (bytes1:ByteArray) (t12:Int) (q2_1:Int) (t11_1:List Int) (t13:Int):Le (Src.find.l0.c bytes1 t12 q2_1 t11_1 t13) (Src.find.l0 bytes1 t12 q2_1 t11_1 t13):=by
  unfold Src.find.l0.c Src.find.l0
  repeat' with_reducible (first | refine Le.letkF (by first | rfl | simp only [Lib.toList_data]) (fun z=>?_) | refine Le.chk ?_ | refine Le.bif ?_ ?_ | refine Le.map ?_ | refine Le.loop (fun s=>?_) | exact Src.find.s0.c_le .. | refine Le.bindF ?_ (fun z=>?_) | exact Le.refl _ | (rcases z with ⟨_,_⟩; dsimp only))
noncomputable def Src.find.c (s0:ByteArray) (bytes1:ByteArray) (q2:Int):Option (Int × Int) :=
 letkF (bytesI s0) fun t11 =>
 letkF ((t11.length:Int)) fun t12 =>
 Src.find.l0.c bytes1 t12 q2 t11 0
theorem Src.find.c_le (s0:ByteArray) (bytes1:ByteArray) (q2:Int):Le (Src.find.c s0 bytes1 q2) (Src.find s0 bytes1 q2):=by
  unfold Src.find.c Src.find
  repeat' with_reducible (first | refine Le.letkF (by first | rfl | simp only [Lib.toList_data]) (fun z=>?_) | refine Le.chk ?_ | refine Le.bif ?_ ?_ | refine Le.map ?_ | refine Le.loop (fun s=>?_) | exact Src.find.l0.c_le .. | refine Le.bindF ?_ (fun z=>?_) | exact Le.refl _ | (rcases z with ⟨_,_⟩; dsimp only))
noncomputable def Src.isDigit.c (c0:Int):Option Bool :=
 letkF (decide (c0 ≥ (48:Int))) fun t4 =>
 bif t4 then
 letkF (decide (c0 ≤ (57:Int))) fun t7 =>
 some t7
 else
 some false
theorem Src.isDigit.c_le (c0:Int):Le (Src.isDigit.c c0) (Src.isDigit c0):=by
  unfold Src.isDigit.c Src.isDigit
  repeat' with_reducible (first | refine Le.letkF (by first | rfl | simp only [Lib.toList_data]) (fun z=>?_) | refine Le.chk ?_ | refine Le.bif ?_ ?_ | refine Le.map ?_ | refine Le.loop (fun s=>?_) | refine Le.bindF ?_ (fun z=>?_) | exact Le.refl _ | (rcases z with ⟨_,_⟩; dsimp only))
noncomputable def Src.numbered.j0.c (s0:ByteArray) (n4:Int):Option (Int × Bool) :=
 letkF (decide (n4 > (0:Int))) fun t19 =>
 bif t19 then
 letkF ((s0.size:Int)) fun t23 =>
 letkF (decide (n4 < t23)) fun t24 =>
 bif t24 then
 chkD (0 ≤ n4 ∧ n4 < (s0.size:Int)) <|
 letkF (bt s0 n4) fun t29 =>
 letkF (t29 == (32:Int)) fun t30 =>
 some (n4,t30)
 else
 some (n4,false)
 else
 some (n4,false)
theorem Src.numbered.j0.c_le (s0:ByteArray) (n4:Int):Le (Src.numbered.j0.c s0 n4) (Src.numbered.j0 s0 n4):=by
  unfold Src.numbered.j0.c Src.numbered.j0
  repeat' with_reducible (first | refine Le.letkF (by first | rfl | simp only [Lib.toList_data]) (fun z=>?_) | refine Le.chk ?_ | refine Le.bif ?_ ?_ | refine Le.map ?_ | refine Le.loop (fun s=>?_) | refine Le.bindF ?_ (fun z=>?_) | exact Le.refl _ | (rcases z with ⟨_,_⟩; dsimp only))
noncomputable def Src.numbered.s0.c (s0:ByteArray) (n4_1:Int):Option (Int ⊕ (Int × Bool)) :=
 letkF ((s0.size:Int)) fun t7 =>
 letkF (decide (n4_1 < t7)) fun t8 =>
 bif t8 then
 chkD (0 ≤ n4_1 ∧ n4_1 < (s0.size:Int)) <|
 letkF (bt s0 n4_1) fun t12 =>
 bindF (Src.isDigit.c t12) fun t13 =>
 bif t13 then
 letkF (IntKind.i64.wrap (n4_1 + (1:Int))) fun t16 =>
 some (.inl t16)
 else
 (Src.numbered.j0.c s0 n4_1).map .inr
 else
 (Src.numbered.j0.c s0 n4_1).map .inr
theorem Src.numbered.s0.c_le (s0:ByteArray) (n4_1:Int):Le (Src.numbered.s0.c s0 n4_1) (Src.numbered.s0 s0 n4_1):=by
  unfold Src.numbered.s0.c Src.numbered.s0
  repeat' with_reducible (first | refine Le.letkF (by first | rfl | simp only [Lib.toList_data]) (fun z=>?_) | refine Le.chk ?_ | refine Le.bif ?_ ?_ | refine Le.map ?_ | refine Le.loop (fun s=>?_) | exact Src.isDigit.c_le .. | exact Src.numbered.j0.c_le .. | refine Le.bindF ?_ (fun z=>?_) | exact Le.refl _ | (rcases z with ⟨_,_⟩; dsimp only))
noncomputable def Src.numbered.l0.c (s0:ByteArray) (n4_1:Int):Option (Int × Bool):=iterO (fun v:Int=>Src.numbered.s0.c s0 v) 3000 n4_1
theorem Src.numbered.l0.c_le (s0:ByteArray) (n4_1:Int):Le (Src.numbered.l0.c s0 n4_1) (Src.numbered.l0 s0 n4_1):=by
  unfold Src.numbered.l0.c Src.numbered.l0
  repeat' with_reducible (first | refine Le.letkF (by first | rfl | simp only [Lib.toList_data]) (fun z=>?_) | refine Le.chk ?_ | refine Le.bif ?_ ?_ | refine Le.map ?_ | refine Le.loop (fun s=>?_) | exact Src.numbered.s0.c_le .. | refine Le.bindF ?_ (fun z=>?_) | exact Le.refl _ | (rcases z with ⟨_,_⟩; dsimp only))
noncomputable def Src.numbered.c (s0:ByteArray):Option (Int × Bool) :=
 Src.numbered.l0.c s0 0
theorem Src.numbered.c_le (s0:ByteArray):Le (Src.numbered.c s0) (Src.numbered s0):=by
  unfold Src.numbered.c Src.numbered
  repeat' with_reducible (first | refine Le.letkF (by first | rfl | simp only [Lib.toList_data]) (fun z=>?_) | refine Le.chk ?_ | refine Le.bif ?_ ?_ | refine Le.map ?_ | refine Le.loop (fun s=>?_) | exact Src.numbered.l0.c_le .. | refine Le.bindF ?_ (fun z=>?_) | exact Le.refl _ | (rcases z with ⟨_,_⟩; dsimp only))
noncomputable def Strs.HasSuffix.c (s0:ByteArray) (suffix1:ByteArray):Option Bool :=
 bindF (Slite.HasSuffix.c s0 suffix1) fun t7 =>
 some t7
theorem Strs.HasSuffix.c_le (s0:ByteArray) (suffix1:ByteArray):Le (Strs.HasSuffix.c s0 suffix1) (Strs.HasSuffix s0 suffix1):=by
  unfold Strs.HasSuffix.c Strs.HasSuffix
  repeat' with_reducible (first | refine Le.letkF (by first | rfl | simp only [Lib.toList_data]) (fun z=>?_) | refine Le.chk ?_ | refine Le.bif ?_ ?_ | refine Le.map ?_ | refine Le.loop (fun s=>?_) | exact Slite.HasSuffix.c_le .. | refine Le.bindF ?_ (fun z=>?_) | exact Le.refl _ | (rcases z with ⟨_,_⟩; dsimp only))
noncomputable def Src.isStatement.c (s0:ByteArray):Option Bool :=
 bindF (Src.find.c s0 ⟨#[59,33]⟩ 0) fun (t9_0,t9_1) =>
 bindF (Src.numbered.c s0) fun (t14_0,t14_1) =>
 letkF (!(s0.data.toList == (⟨#[]⟩:ByteArray).data.toList)) fun t18 =>
 bif t18 then
 bindF (Src.isText.c s0) fun t21 =>
 bif t21 then
 bindF (Strs.Trim.c s0 ⟨#[32]⟩) fun t25 =>
 letkF (t25.data.toList == s0.data.toList) fun t27 =>
 bif t27 then
 letkF (decide (t9_0 < (0:Int))) fun t31 =>
 bif t31 then
 letkF (t9_1 == (0:Int)) fun t35 =>
 bif t35 then
 bindF (Strs.HasSuffix.c s0 ⟨#[38]⟩) fun t39 =>
 letkF (!t39) fun t40 =>
 bif t40 then
 letkF (!t14_1) fun t44 =>
 some t44
 else
 some false
 else
 some false
 else
 some false
 else
 some false
 else
 some false
 else
 some false
theorem Src.isStatement.c_le (s0:ByteArray):Le (Src.isStatement.c s0) (Src.isStatement s0):=by
  unfold Src.isStatement.c Src.isStatement
  repeat' with_reducible (first | refine Le.letkF (by first | rfl | simp only [Lib.toList_data]) (fun z=>?_) | refine Le.chk ?_ | refine Le.bif ?_ ?_ | refine Le.map ?_ | refine Le.loop (fun s=>?_) | exact Src.isText.c_le .. | exact Src.find.c_le .. | exact Src.numbered.c_le .. | exact Strs.HasSuffix.c_le .. | exact Strs.Trim.c_le .. | refine Le.bindF ?_ (fun z=>?_) | exact Le.refl _ | (rcases z with ⟨_,_⟩; dsimp only))
noncomputable def Src.reader.end_.j1.c (t15:ByteArray) (r0_0_1:List api.Line) (r0_1_1:Int) (r0_2_1:Bool) (r0_3_1:Int) (r0_4_1:Int) (r0_5_1:ByteArray) (r0_6_1:Int):Option ((List api.Line) × Int × Bool × Int × Int × ByteArray × Int) :=
 chkD ((r0_0_1.length + ([(⟨r0_3_1,t15,r0_4_1⟩:api.Line)]).length) * 32 ≤ 140737488355328) <|
 letkF (r0_0_1 ++ ([(⟨r0_3_1,t15,r0_4_1⟩:api.Line)])) fun t57 =>
 some (t57,r0_1_1,r0_2_1,r0_3_1,r0_4_1,r0_5_1,r0_6_1)
theorem Src.reader.end_.j1.c_le (t15:ByteArray) (r0_0_1:List api.Line) (r0_1_1:Int) (r0_2_1:Bool) (r0_3_1:Int) (r0_4_1:Int) (r0_5_1:ByteArray) (r0_6_1:Int):Le (Src.reader.end_.j1.c t15 r0_0_1 r0_1_1 r0_2_1 r0_3_1 r0_4_1 r0_5_1 r0_6_1) (Src.reader.end_.j1 t15 r0_0_1 r0_1_1 r0_2_1 r0_3_1 r0_4_1 r0_5_1 r0_6_1):=by
  unfold Src.reader.end_.j1.c Src.reader.end_.j1
  repeat' with_reducible (first | refine Le.letkF (by first | rfl | simp only [Lib.toList_data]) (fun z=>?_) | refine Le.chk ?_ | refine Le.bif ?_ ?_ | refine Le.map ?_ | refine Le.loop (fun s=>?_) | refine Le.bindF ?_ (fun z=>?_) | exact Le.refl _ | (rcases z with ⟨_,_⟩; dsimp only))
noncomputable def Src.reader.end_.j2.c (t15:ByteArray) (r0_0_2:List api.Line) (r0_1_2:Int) (r0_2_2:Bool) (r0_3_2:Int) (r0_4_2:Int) (r0_5_2:ByteArray) (r0_6_2:Int) (t34:Bool):Option ((List api.Line) × Int × Bool × Int × Int × ByteArray × Int) :=
 bif t34 then
 bindF (Src.reader.fail.c r0_0_2 r0_1_2 r0_2_2 r0_3_2 r0_4_2 r0_5_2 r0_6_2 r0_4_2) fun (o_0,o_1,o_2,o_3,o_4,o_5,o_6) =>
 Src.reader.end_.j1.c t15 o_0 o_1 o_2 o_3 o_4 o_5 o_6
 else
 Src.reader.end_.j1.c t15 r0_0_2 r0_1_2 r0_2_2 r0_3_2 r0_4_2 r0_5_2 r0_6_2
theorem Src.reader.end_.j2.c_le (t15:ByteArray) (r0_0_2:List api.Line) (r0_1_2:Int) (r0_2_2:Bool) (r0_3_2:Int) (r0_4_2:Int) (r0_5_2:ByteArray) (r0_6_2:Int) (t34:Bool):Le (Src.reader.end_.j2.c t15 r0_0_2 r0_1_2 r0_2_2 r0_3_2 r0_4_2 r0_5_2 r0_6_2 t34) (Src.reader.end_.j2 t15 r0_0_2 r0_1_2 r0_2_2 r0_3_2 r0_4_2 r0_5_2 r0_6_2 t34):=by
  unfold Src.reader.end_.j2.c Src.reader.end_.j2
  repeat' with_reducible (first | refine Le.letkF (by first | rfl | simp only [Lib.toList_data]) (fun z=>?_) | refine Le.chk ?_ | refine Le.bif ?_ ?_ | refine Le.map ?_ | refine Le.loop (fun s=>?_) | exact Src.reader.fail.c_le .. | exact Src.reader.end_.j1.c_le .. | refine Le.bindF ?_ (fun z=>?_) | exact Le.refl _ | (rcases z with ⟨_,_⟩; dsimp only))
noncomputable def Src.reader.end_.j0.c (r0_0:List api.Line) (r0_1:Int) (r0_3:Int) (r0_4:Int) (r0_5:ByteArray) (r0_6:Int) (t15:ByteArray):Option ((List api.Line) × Int × Bool × Int × Int × ByteArray × Int) :=
 letkF (r0_6 != (0:Int)) fun t29 =>
 bif t29 then
 Src.reader.end_.j2.c t15 r0_0 r0_1 false r0_3 r0_4 r0_5 r0_6 true
 else
 bindF (Src.isStatement.c t15) fun t32 =>
 letkF (!t32) fun t33 =>
 Src.reader.end_.j2.c t15 r0_0 r0_1 false r0_3 r0_4 r0_5 r0_6 t33
theorem Src.reader.end_.j0.c_le (r0_0:List api.Line) (r0_1:Int) (r0_3:Int) (r0_4:Int) (r0_5:ByteArray) (r0_6:Int) (t15:ByteArray):Le (Src.reader.end_.j0.c r0_0 r0_1 r0_3 r0_4 r0_5 r0_6 t15) (Src.reader.end_.j0 r0_0 r0_1 r0_3 r0_4 r0_5 r0_6 t15):=by
  unfold Src.reader.end_.j0.c Src.reader.end_.j0
  repeat' with_reducible (first | refine Le.letkF (by first | rfl | simp only [Lib.toList_data]) (fun z=>?_) | refine Le.chk ?_ | refine Le.bif ?_ ?_ | refine Le.map ?_ | refine Le.loop (fun s=>?_) | exact Src.isStatement.c_le .. | exact Src.reader.end_.j2.c_le .. | refine Le.bindF ?_ (fun z=>?_) | exact Le.refl _ | (rcases z with ⟨_,_⟩; dsimp only))
noncomputable def Src.reader.end_.c (r0_0:List api.Line) (r0_1:Int) (r0_2:Bool) (r0_3:Int) (r0_4:Int) (r0_5:ByteArray) (r0_6:Int):Option ((List api.Line) × Int × Bool × Int × Int × ByteArray × Int) :=
 letkF (!r0_2) fun t7 =>
 bif t7 then
 some (r0_0,r0_1,r0_2,r0_3,r0_4,r0_5,r0_6)
 else
 bindF (Strs.Trim.c r0_5 ⟨#[32]⟩) fun t15 =>
 letkF (t15.data.toList == (⟨#[]⟩:ByteArray).data.toList) fun t17 =>
 bif t17 then
 letkF (r0_3 == (0:Int)) fun t23 =>
 bif t23 then
 some (r0_0,r0_1,false,r0_3,r0_4,r0_5,r0_6)
 else
 Src.reader.end_.j0.c r0_0 r0_1 r0_3 r0_4 r0_5 r0_6 t15
 else
 Src.reader.end_.j0.c r0_0 r0_1 r0_3 r0_4 r0_5 r0_6 t15
theorem Src.reader.end_.c_le (r0_0:List api.Line) (r0_1:Int) (r0_2:Bool) (r0_3:Int) (r0_4:Int) (r0_5:ByteArray) (r0_6:Int):Le (Src.reader.end_.c r0_0 r0_1 r0_2 r0_3 r0_4 r0_5 r0_6) (Src.reader.end_ r0_0 r0_1 r0_2 r0_3 r0_4 r0_5 r0_6):=by
  unfold Src.reader.end_.c Src.reader.end_
  repeat' with_reducible (first | refine Le.letkF (by first | rfl | simp only [Lib.toList_data]) (fun z=>?_) | refine Le.chk ?_ | refine Le.bif ?_ ?_ | refine Le.map ?_ | refine Le.loop (fun s=>?_) | exact Src.reader.end_.j0.c_le .. | exact Strs.Trim.c_le .. | refine Le.bindF ?_ (fun z=>?_) | exact Le.refl _ | (rcases z with ⟨_,_⟩; dsimp only))
noncomputable def Src.labelOf.c (s0:ByteArray):Option (Int × Bool) :=
 bindF (Strconv.Atoi.c s0) fun (t10_0,t10_1) =>
 bif t10_1 then
 chkD (((s0.size + (⟨#[32]⟩:ByteArray).size:Nat):Int) ≤ 9223372036854775807) <|
 letkF (s0 ++ (⟨#[32]⟩:ByteArray)) fun t15_1 =>
 bindF (Src.numbered.c t15_1) fun (t16_2_0,t16_2_1) =>
 letkF ((s0.size:Int)) fun t25 =>
 letkF (t16_2_0 == t25) fun t26 =>
 bif t26 then
 letkF ((s0.size:Int)) fun t30 =>
 letkF (decide (t30 ≤ (5:Int))) fun t31 =>
 bif t31 then
 letkF (decide (t10_0 > (0:Int))) fun t35 =>
 some (t10_0,t35)
 else
 some (t10_0,false)
 else
 some (t10_0,false)
 else
 chkD (((s0.size + (⟨#[32]⟩:ByteArray).size:Nat):Int) ≤ 9223372036854775807) <|
 letkF (s0 ++ (⟨#[32]⟩:ByteArray)) fun t15 =>
 bindF (Src.numbered.c t15) fun (t16_0,t16_1) =>
 some (t10_0,false)
theorem Src.labelOf.c_le (s0:ByteArray):Le (Src.labelOf.c s0) (Src.labelOf s0):=by
  unfold Src.labelOf.c Src.labelOf
  repeat' with_reducible (first | refine Le.letkF (by first | rfl | simp only [Lib.toList_data]) (fun z=>?_) | refine Le.chk ?_ | refine Le.bif ?_ ?_ | refine Le.map ?_ | refine Le.loop (fun s=>?_) | exact Src.numbered.c_le .. | exact Strconv.Atoi.c_le .. | refine Le.bindF ?_ (fun z=>?_) | exact Le.refl _ | (rcases z with ⟨_,_⟩; dsimp only))
noncomputable def Src.reader.old.j0.c (t22:ByteArray) (r0_0_1:List api.Line) (r0_1_1:Int) (r0_2_1:Bool) (r0_3_1:Int) (r0_4_1:Int) (r0_5_1:ByteArray) (r0_6_1:Int):Option ((List api.Line) × Int × Bool × Int × Int × ByteArray × Int) :=
 bindF (Src.find.c t22 ⟨#[33]⟩ r0_6_1) fun (t83_0,t83_1) =>
 letkF (decide (t83_0 ≥ (0:Int))) fun t91 =>
 bif t91 then
 chkD (0 ≤ t83_0 ∧ t83_0 ≤ (t22.size:Int)) <|
 letkF (t22.extract 0 t83_0.toNat) fun t98 =>
 chkD (((r0_5_1.size + t98.size:Nat):Int) ≤ 9223372036854775807) <|
 letkF (r0_5_1 ++ t98) fun t99 =>
 some (r0_0_1,r0_1_1,r0_2_1,r0_3_1,r0_4_1,t99,t83_1)
 else
 letkF ((t22.size:Int)) fun t108 =>
 letkF (IntKind.i64.wrap ((66:Int) - t108)) fun t109 =>
 letkF (if t109 > 0 then t109 else 0) fun t110 =>
 bindF (Strs.Repeat.c ⟨#[32]⟩ t110) fun t111 =>
 chkD (((t22.size + t111.size:Nat):Int) ≤ 9223372036854775807) <|
 letkF (t22 ++ t111) fun t112 =>
 chkD (((r0_5_1.size + t112.size:Nat):Int) ≤ 9223372036854775807) <|
 letkF (r0_5_1 ++ t112) fun t113 =>
 some (r0_0_1,r0_1_1,r0_2_1,r0_3_1,r0_4_1,t113,t83_1)
theorem Src.reader.old.j0.c_le (t22:ByteArray) (r0_0_1:List api.Line) (r0_1_1:Int) (r0_2_1:Bool) (r0_3_1:Int) (r0_4_1:Int) (r0_5_1:ByteArray) (r0_6_1:Int):Le (Src.reader.old.j0.c t22 r0_0_1 r0_1_1 r0_2_1 r0_3_1 r0_4_1 r0_5_1 r0_6_1) (Src.reader.old.j0 t22 r0_0_1 r0_1_1 r0_2_1 r0_3_1 r0_4_1 r0_5_1 r0_6_1):=by
  unfold Src.reader.old.j0.c Src.reader.old.j0
  repeat' with_reducible (first | refine Le.letkF (by first | rfl | simp only [Lib.toList_data]) (fun z=>?_) | refine Le.chk ?_ | refine Le.bif ?_ ?_ | refine Le.map ?_ | refine Le.loop (fun s=>?_) | exact Src.find.c_le .. | exact Strs.Repeat.c_le .. | refine Le.bindF ?_ (fun z=>?_) | exact Le.refl _ | (rcases z with ⟨_,_⟩; dsimp only))
noncomputable def Src.reader.old.j2.c (at1:Int) (t22:ByteArray) (t52_0:Int) (r0_0_3:List api.Line) (r0_1_3:Int) (r0_2_3:Bool) (r0_3_3:Int) (r0_4_3:Int) (r0_5_3:ByteArray) (r0_6_3:Int):Option ((List api.Line) × Int × Bool × Int × Int × ByteArray × Int) :=
 Src.reader.old.j0.c t22 r0_0_3 r0_1_3 true t52_0 at1 (⟨#[]⟩) 0
theorem Src.reader.old.j2.c_le (at1:Int) (t22:ByteArray) (t52_0:Int) (r0_0_3:List api.Line) (r0_1_3:Int) (r0_2_3:Bool) (r0_3_3:Int) (r0_4_3:Int) (r0_5_3:ByteArray) (r0_6_3:Int):Le (Src.reader.old.j2.c at1 t22 t52_0 r0_0_3 r0_1_3 r0_2_3 r0_3_3 r0_4_3 r0_5_3 r0_6_3) (Src.reader.old.j2 at1 t22 t52_0 r0_0_3 r0_1_3 r0_2_3 r0_3_3 r0_4_3 r0_5_3 r0_6_3):=by
  unfold Src.reader.old.j2.c Src.reader.old.j2
  repeat' with_reducible (first | refine Le.letkF (by first | rfl | simp only [Lib.toList_data]) (fun z=>?_) | refine Le.chk ?_ | refine Le.bif ?_ ?_ | refine Le.map ?_ | refine Le.loop (fun s=>?_) | exact Src.reader.old.j0.c_le .. | refine Le.bindF ?_ (fun z=>?_) | exact Le.refl _ | (rcases z with ⟨_,_⟩; dsimp only))
noncomputable def Src.reader.old.j1.c (at1:Int) (t17:ByteArray) (t22:ByteArray) (r0_0_2:List api.Line) (r0_1_2:Int) (r0_2_2:Bool) (r0_3_2:Int) (r0_4_2:Int) (r0_5_2:ByteArray) (r0_6_2:Int) (t35:Bool):Option ((List api.Line) × Int × Bool × Int × Int × ByteArray × Int) :=
 bif t35 then
 letkF (!(t17.data.toList == (⟨#[]⟩:ByteArray).data.toList)) fun t37 =>
 bif t37 then
 bindF (Src.reader.fail.c r0_0_2 r0_1_2 r0_2_2 r0_3_2 r0_4_2 r0_5_2 r0_6_2 at1) fun (o_0_3,o_1_3,o_2_3,o_3_3,o_4_3,o_5_3,o_6_3) =>
 some (o_0_3,o_1_3,o_2_3,o_3_3,o_4_3,o_5_3,o_6_3)
 else
 letkF (!r0_2_2) fun t43 =>
 bif t43 then
 bindF (Src.reader.fail.c r0_0_2 r0_1_2 r0_2_2 r0_3_2 r0_4_2 r0_5_2 r0_6_2 at1) fun (o_0_2,o_1_2,o_2_2,o_3_2,o_4_2,o_5_2,o_6_2) =>
 some (o_0_2,o_1_2,o_2_2,o_3_2,o_4_2,o_5_2,o_6_2)
 else
 Src.reader.old.j0.c t22 r0_0_2 r0_1_2 r0_2_2 r0_3_2 r0_4_2 r0_5_2 r0_6_2
 else
 bindF (Src.reader.end_.c r0_0_2 r0_1_2 r0_2_2 r0_3_2 r0_4_2 r0_5_2 r0_6_2) fun (o_0,o_1,o_2,o_3,o_4,o_5,o_6) =>
 bindF (Src.labelOf.c t17) fun (t52_0,t52_1) =>
 letkF (!(t17.data.toList == (⟨#[]⟩:ByteArray).data.toList)) fun t56 =>
 bif t56 then
 letkF (!t52_1) fun t59 =>
 bif t59 then
 bindF (Src.reader.fail.c o_0 o_1 o_2 o_3 o_4 o_5 o_6 at1) fun (o_0_1,o_1_1,o_2_1,o_3_1,o_4_1,o_5_1,o_6_1) =>
 Src.reader.old.j2.c at1 t22 t52_0 o_0_1 o_1_1 o_2_1 o_3_1 o_4_1 o_5_1 o_6_1
 else
 Src.reader.old.j2.c at1 t22 t52_0 o_0 o_1 o_2 o_3 o_4 o_5 o_6
 else
 Src.reader.old.j2.c at1 t22 t52_0 o_0 o_1 o_2 o_3 o_4 o_5 o_6
theorem Src.reader.old.j1.c_le (at1:Int) (t17:ByteArray) (t22:ByteArray) (r0_0_2:List api.Line) (r0_1_2:Int) (r0_2_2:Bool) (r0_3_2:Int) (r0_4_2:Int) (r0_5_2:ByteArray) (r0_6_2:Int) (t35:Bool):Le (Src.reader.old.j1.c at1 t17 t22 r0_0_2 r0_1_2 r0_2_2 r0_3_2 r0_4_2 r0_5_2 r0_6_2 t35) (Src.reader.old.j1 at1 t17 t22 r0_0_2 r0_1_2 r0_2_2 r0_3_2 r0_4_2 r0_5_2 r0_6_2 t35):=by
  unfold Src.reader.old.j1.c Src.reader.old.j1
  repeat' with_reducible (first | refine Le.letkF (by first | rfl | simp only [Lib.toList_data]) (fun z=>?_) | refine Le.chk ?_ | refine Le.bif ?_ ?_ | refine Le.map ?_ | refine Le.loop (fun s=>?_) | exact Src.reader.fail.c_le .. | exact Src.reader.end_.c_le .. | exact Src.labelOf.c_le .. | exact Src.reader.old.j0.c_le .. | exact Src.reader.old.j2.c_le .. | refine Le.bindF ?_ (fun z=>?_) | exact Le.refl _ | (rcases z with ⟨_,_⟩; dsimp only))
noncomputable def Src.reader.old.c (r0_0:List api.Line) (r0_1:Int) (r0_2:Bool) (r0_3:Int) (r0_4:Int) (r0_5:ByteArray) (r0_6:Int) (at1:Int) (s2:ByteArray):Option ((List api.Line) × Int × Bool × Int × Int × ByteArray × Int) :=
 letkF ((s2.size:Int)) fun t14 =>
 letkF (if 5 < t14 then 5 else t14) fun t15 =>
 chkD (0 ≤ t15 ∧ t15 ≤ (s2.size:Int)) <|
 letkF (s2.extract 0 t15.toNat) fun t16 =>
 bindF (Strs.Trim.c t16 ⟨#[32]⟩) fun t17 =>
 letkF ((s2.size:Int)) fun t20 =>
 letkF (if 6 < t20 then 6 else t20) fun t21 =>
 chkD (0 ≤ t21 ∧ t21 ≤ (s2.size:Int)) <|
 letkF (s2.extract t21.toNat s2.size) fun t22 =>
 letkF ((s2.size:Int)) fun t24 =>
 letkF (decide (t24 ≥ (6:Int))) fun t25 =>
 bif t25 then
 chkD (0 ≤ (5:Int) ∧ (5:Int) < (s2.size:Int)) <|
 letkF (bt s2 (5:Int)) fun t28 =>
 letkF (t28 != (32:Int)) fun t29 =>
 bif t29 then
 chkD (0 ≤ (5:Int) ∧ (5:Int) < (s2.size:Int)) <|
 letkF (bt s2 (5:Int)) fun t33 =>
 letkF (t33 != (48:Int)) fun t34 =>
 Src.reader.old.j1.c at1 t17 t22 r0_0 r0_1 r0_2 r0_3 r0_4 r0_5 r0_6 t34
 else
 Src.reader.old.j1.c at1 t17 t22 r0_0 r0_1 r0_2 r0_3 r0_4 r0_5 r0_6 false
 else
 Src.reader.old.j1.c at1 t17 t22 r0_0 r0_1 r0_2 r0_3 r0_4 r0_5 r0_6 false
theorem Src.reader.old.c_le (r0_0:List api.Line) (r0_1:Int) (r0_2:Bool) (r0_3:Int) (r0_4:Int) (r0_5:ByteArray) (r0_6:Int) (at1:Int) (s2:ByteArray):Le (Src.reader.old.c r0_0 r0_1 r0_2 r0_3 r0_4 r0_5 r0_6 at1 s2) (Src.reader.old r0_0 r0_1 r0_2 r0_3 r0_4 r0_5 r0_6 at1 s2):=by
  unfold Src.reader.old.c Src.reader.old
  repeat' with_reducible (first | refine Le.letkF (by first | rfl | simp only [Lib.toList_data]) (fun z=>?_) | refine Le.chk ?_ | refine Le.bif ?_ ?_ | refine Le.map ?_ | refine Le.loop (fun s=>?_) | exact Src.reader.old.j1.c_le .. | exact Strs.Trim.c_le .. | refine Le.bindF ?_ (fun z=>?_) | exact Le.refl _ | (rcases z with ⟨_,_⟩; dsimp only))
noncomputable def Src.reader.answer.j0.c (r0_0_1:List api.Line) (r0_1_1:Int) (r0_2_1:Bool) (r0_3_1:Int) (r0_4_1:Int) (r0_5_1:ByteArray) (r0_6_1:Int):Option ((List api.Line) × Int × Int) :=
 some (r0_0_1,0,0)
theorem Src.reader.answer.j0.c_le (r0_0_1:List api.Line) (r0_1_1:Int) (r0_2_1:Bool) (r0_3_1:Int) (r0_4_1:Int) (r0_5_1:ByteArray) (r0_6_1:Int):Le (Src.reader.answer.j0.c r0_0_1 r0_1_1 r0_2_1 r0_3_1 r0_4_1 r0_5_1 r0_6_1) (Src.reader.answer.j0 r0_0_1 r0_1_1 r0_2_1 r0_3_1 r0_4_1 r0_5_1 r0_6_1):=by
  unfold Src.reader.answer.j0.c Src.reader.answer.j0
  repeat' with_reducible (first | refine Le.letkF (by first | rfl | simp only [Lib.toList_data]) (fun z=>?_) | refine Le.chk ?_ | refine Le.bif ?_ ?_ | refine Le.map ?_ | refine Le.loop (fun s=>?_) | refine Le.bindF ?_ (fun z=>?_) | exact Le.refl _ | (rcases z with ⟨_,_⟩; dsimp only))
noncomputable def Src.reader.answer.c (r0_0:List api.Line) (r0_1:Int) (r0_2:Bool) (r0_3:Int) (r0_4:Int) (r0_5:ByteArray) (r0_6:Int) (text1:ByteArray):Option ((List api.Line) × Int × Int) :=
 letkF (decide (r0_1 > (0:Int))) fun t12 =>
 bif t12 then
 some ([],r0_1,3)
 else
 letkF ((text1.size:Int)) fun t19 =>
 letkF (decide (t19 > (8000:Int))) fun t20 =>
 bif t20 then
 some ([],0,4)
 else
 letkF ((r0_0.length:Int)) fun t26 =>
 letkF (decide (t26 > (200:Int))) fun t27 =>
 bif t27 then
 some ([],0,4)
 else
 Src.reader.answer.j0.c r0_0 r0_1 r0_2 r0_3 r0_4 r0_5 r0_6
theorem Src.reader.answer.c_le (r0_0:List api.Line) (r0_1:Int) (r0_2:Bool) (r0_3:Int) (r0_4:Int) (r0_5:ByteArray) (r0_6:Int) (text1:ByteArray):Le (Src.reader.answer.c r0_0 r0_1 r0_2 r0_3 r0_4 r0_5 r0_6 text1) (Src.reader.answer r0_0 r0_1 r0_2 r0_3 r0_4 r0_5 r0_6 text1):=by
  unfold Src.reader.answer.c Src.reader.answer
  repeat' with_reducible (first | refine Le.letkF (by first | rfl | simp only [Lib.toList_data]) (fun z=>?_) | refine Le.chk ?_ | refine Le.bif ?_ ?_ | refine Le.map ?_ | refine Le.loop (fun s=>?_) | exact Src.reader.answer.j0.c_le .. | refine Le.bindF ?_ (fun z=>?_) | exact Le.refl _ | (rcases z with ⟨_,_⟩; dsimp only))
noncomputable def Src.Old.j0.c (text0:ByteArray) (t11:(List ByteArray)) (t12:Int) (t13:Int) (t16:ByteArray) (r5_0_1:List api.Line) (r5_1_1:Int) (r5_2_1:Bool) (r5_3_1:Int) (r5_4_1:Int) (r5_5_1:ByteArray) (r5_6_1:Int):Option (((List api.Line) × Int × Bool × Int × Int × ByteArray × Int × Int) ⊕ ((List api.Line) × Int × Int)) :=
 bindF (Src.Comment.c t16 true) fun t31 =>
 letkF (!t31) fun t32 =>
 bif t32 then
 letkF (IntKind.i64.wrap (t13 + (1:Int))) fun t35 =>
 bindF (Src.reader.old.c r5_0_1 r5_1_1 r5_2_1 r5_3_1 r5_4_1 r5_5_1 r5_6_1 t35 t16) fun (o_0_1,o_1_1,o_2_1,o_3_1,o_4_1,o_5_1,o_6_1) =>
 letkF (IntKind.i64.wrap (t13 + (1:Int))) fun t38_1 =>
 some (.inl (o_0_1,o_1_1,o_2_1,o_3_1,o_4_1,o_5_1,o_6_1,t38_1))
 else
 letkF (IntKind.i64.wrap (t13 + (1:Int))) fun t38 =>
 some (.inl (r5_0_1,r5_1_1,r5_2_1,r5_3_1,r5_4_1,r5_5_1,r5_6_1,t38))
theorem Src.Old.j0.c_le (text0:ByteArray) (t11:(List ByteArray)) (t12:Int) (t13:Int) (t16:ByteArray) (r5_0_1:List api.Line) (r5_1_1:Int) (r5_2_1:Bool) (r5_3_1:Int) (r5_4_1:Int) (r5_5_1:ByteArray) (r5_6_1:Int):Le (Src.Old.j0.c text0 t11 t12 t13 t16 r5_0_1 r5_1_1 r5_2_1 r5_3_1 r5_4_1 r5_5_1 r5_6_1) (Src.Old.j0 text0 t11 t12 t13 t16 r5_0_1 r5_1_1 r5_2_1 r5_3_1 r5_4_1 r5_5_1 r5_6_1):=by
  unfold Src.Old.j0.c Src.Old.j0
  repeat' with_reducible (first | refine Le.letkF (by first | rfl | simp only [Lib.toList_data]) (fun z=>?_) | refine Le.chk ?_ | refine Le.bif ?_ ?_ | refine Le.map ?_ | refine Le.loop (fun s=>?_) | exact Src.Comment.c_le .. | exact Src.reader.old.c_le .. | refine Le.bindF ?_ (fun z=>?_) | exact Le.refl _ | (rcases z with ⟨_,_⟩; dsimp only))
noncomputable def Src.Old.j1.c (text0:ByteArray) (t11:(List ByteArray)) (t12:Int) (t13:Int) (t16:ByteArray) (r5_0_2:List api.Line) (r5_1_2:Int) (r5_2_2:Bool) (r5_3_2:Int) (r5_4_2:Int) (r5_5_2:ByteArray) (r5_6_2:Int) (t25:Bool):Option (((List api.Line) × Int × Bool × Int × Int × ByteArray × Int × Int) ⊕ ((List api.Line) × Int × Int)) :=
 bif t25 then
 letkF (IntKind.i64.wrap (t13 + (1:Int))) fun t28 =>
 bindF (Src.reader.fail.c r5_0_2 r5_1_2 r5_2_2 r5_3_2 r5_4_2 r5_5_2 r5_6_2 t28) fun (o_0_2,o_1_2,o_2_2,o_3_2,o_4_2,o_5_2,o_6_2) =>
 Src.Old.j0.c text0 t11 t12 t13 t16 o_0_2 o_1_2 o_2_2 o_3_2 o_4_2 o_5_2 o_6_2
 else
 Src.Old.j0.c text0 t11 t12 t13 t16 r5_0_2 r5_1_2 r5_2_2 r5_3_2 r5_4_2 r5_5_2 r5_6_2
theorem Src.Old.j1.c_le (text0:ByteArray) (t11:(List ByteArray)) (t12:Int) (t13:Int) (t16:ByteArray) (r5_0_2:List api.Line) (r5_1_2:Int) (r5_2_2:Bool) (r5_3_2:Int) (r5_4_2:Int) (r5_5_2:ByteArray) (r5_6_2:Int) (t25:Bool):Le (Src.Old.j1.c text0 t11 t12 t13 t16 r5_0_2 r5_1_2 r5_2_2 r5_3_2 r5_4_2 r5_5_2 r5_6_2 t25) (Src.Old.j1 text0 t11 t12 t13 t16 r5_0_2 r5_1_2 r5_2_2 r5_3_2 r5_4_2 r5_5_2 r5_6_2 t25):=by
  unfold Src.Old.j1.c Src.Old.j1
  repeat' with_reducible (first | refine Le.letkF (by first | rfl | simp only [Lib.toList_data]) (fun z=>?_) | refine Le.chk ?_ | refine Le.bif ?_ ?_ | refine Le.map ?_ | refine Le.loop (fun s=>?_) | exact Src.reader.fail.c_le .. | exact Src.Old.j0.c_le .. | refine Le.bindF ?_ (fun z=>?_) | exact Le.refl _ | (rcases z with ⟨_,_⟩; dsimp only))
noncomputable def Src.Old.s0.c (text0:ByteArray) (t11:(List ByteArray)) (t12:Int) (r5_0:List api.Line) (r5_1:Int) (r5_2:Bool) (r5_3:Int) (r5_4:Int) (r5_5:ByteArray) (r5_6:Int) (t13:Int):Option (((List api.Line) × Int × Bool × Int × Int × ByteArray × Int × Int) ⊕ ((List api.Line) × Int × Int)) :=
 letkF (decide (t13 < t12)) fun t14 =>
 bif t14 then
 chkD (0 ≤ t13) <|
 bindF (t11[t13.toNat]?) fun t16 =>
 bindF (Src.isText.c t16) fun t19 =>
 letkF (!t19) fun t20 =>
 bif t20 then
 Src.Old.j1.c text0 t11 t12 t13 t16 r5_0 r5_1 r5_2 r5_3 r5_4 r5_5 r5_6 true
 else
 letkF ((t16.size:Int)) fun t23 =>
 letkF (decide (t23 > (72:Int))) fun t24 =>
 Src.Old.j1.c text0 t11 t12 t13 t16 r5_0 r5_1 r5_2 r5_3 r5_4 r5_5 r5_6 t24
 else
 ((
 bindF (Src.reader.end_.c r5_0 r5_1 r5_2 r5_3 r5_4 r5_5 r5_6) fun (o_0,o_1,o_2,o_3,o_4,o_5,o_6) =>
 bindF (Src.reader.answer.c o_0 o_1 o_2 o_3 o_4 o_5 o_6 text0) fun (t43_0,t43_1,t43_2) =>
 some (t43_0,t43_1,t43_2))).map .inr
theorem Src.Old.s0.c_le (text0:ByteArray) (t11:(List ByteArray)) (t12:Int) (r5_0:List api.Line) (r5_1:Int) (r5_2:Bool) (r5_3:Int) (r5_4:Int) (r5_5:ByteArray) (r5_6:Int) (t13:Int):Le (Src.Old.s0.c text0 t11 t12 r5_0 r5_1 r5_2 r5_3 r5_4 r5_5 r5_6 t13) (Src.Old.s0 text0 t11 t12 r5_0 r5_1 r5_2 r5_3 r5_4 r5_5 r5_6 t13):=by
  unfold Src.Old.s0.c Src.Old.s0
  repeat' with_reducible (first | refine Le.letkF (by first | rfl | simp only [Lib.toList_data]) (fun z=>?_) | refine Le.chk ?_ | refine Le.bif ?_ ?_ | refine Le.map ?_ | refine Le.loop (fun s=>?_) | exact Src.isText.c_le .. | exact Src.reader.end_.c_le .. | exact Src.reader.answer.c_le .. | exact Src.Old.j1.c_le .. | refine Le.bindF ?_ (fun z=>?_) | exact Le.refl _ | (rcases z with ⟨_,_⟩; dsimp only))
noncomputable def Src.Old.l0.c (text0:ByteArray) (t11:(List ByteArray)) (t12:Int) (r5_0:List api.Line) (r5_1:Int) (r5_2:Bool) (r5_3:Int) (r5_4:Int) (r5_5:ByteArray) (r5_6:Int) (t13:Int):Option ((List api.Line) × Int × Int):=iterO (fun v:(List api.Line) × Int × Bool × Int × Int × ByteArray × Int × Int=>Src.Old.s0.c text0 t11 t12 v.1 v.2.1 v.2.2.1 v.2.2.2.1 v.2.2.2.2.1 v.2.2.2.2.2.1 v.2.2.2.2.2.2.1 v.2.2.2.2.2.2.2) 3000 (r5_0,r5_1,r5_2,r5_3,r5_4,r5_5,r5_6,t13)
theorem Src.Old.l0.c_le (text0:ByteArray) (t11:(List ByteArray)) (t12:Int) (r5_0:List api.Line) (r5_1:Int) (r5_2:Bool) (r5_3:Int) (r5_4:Int) (r5_5:ByteArray) (r5_6:Int) (t13:Int):Le (Src.Old.l0.c text0 t11 t12 r5_0 r5_1 r5_2 r5_3 r5_4 r5_5 r5_6 t13) (Src.Old.l0 text0 t11 t12 r5_0 r5_1 r5_2 r5_3 r5_4 r5_5 r5_6 t13):=by
  unfold Src.Old.l0.c Src.Old.l0
  repeat' with_reducible (first | refine Le.letkF (by first | rfl | simp only [Lib.toList_data]) (fun z=>?_) | refine Le.chk ?_ | refine Le.bif ?_ ?_ | refine Le.map ?_ | refine Le.loop (fun s=>?_) | exact Src.Old.s0.c_le .. | refine Le.bindF ?_ (fun z=>?_) | exact Le.refl _ | (rcases z with ⟨_,_⟩; dsimp only))
noncomputable def Src.Old.c (text0:ByteArray):Option ((List api.Line) × Int × Int) :=
 bindF (Src.lines.c text0) fun t11 =>
 letkF ((t11.length:Int)) fun t12 =>
 Src.Old.l0.c text0 t11 t12 ([]) 0 false 0 0 (⟨#[]⟩) 0 0
theorem Src.Old.c_le (text0:ByteArray):Le (Src.Old.c text0) (Src.Old text0):=by
  unfold Src.Old.c Src.Old
  repeat' with_reducible (first | refine Le.letkF (by first | rfl | simp only [Lib.toList_data]) (fun z=>?_) | refine Le.chk ?_ | refine Le.bif ?_ ?_ | refine Le.map ?_ | refine Le.loop (fun s=>?_) | exact Src.lines.c_le .. | exact Src.Old.l0.c_le .. | refine Le.bindF ?_ (fun z=>?_) | exact Le.refl _ | (rcases z with ⟨_,_⟩; dsimp only))
noncomputable def Law3.Awake.c :Option Bool :=
 bindF (Src.Old.c ⟨#[32,32,32,49,48,32,120,32,61,32,49,10,32,32,32,32,32,38,32,32,43,32,50,10]⟩) fun (t5_0,t5_1,t5_2) =>
 letkF (t5_1 == (0:Int)) fun t10 =>
 bif t10 then
 letkF (t5_2 == (0:Int)) fun t13 =>
 bif t13 then
 letkF ((t5_0.length:Int)) fun t17 =>
 letkF (t17 == (1:Int)) fun t18 =>
 bif t18 then
 chkD (0 ≤ (0:Int)) <|
 bindF (t5_0[(0:Int).toNat]?) fun t22 =>
 letkF (t22.Label == (10:Int)) fun t25 =>
 bif t25 then
 chkD (0 ≤ (0:Int)) <|
 bindF (t5_0[(0:Int).toNat]?) fun t29 =>
 letkF (t29.At == (1:Int)) fun t32 =>
 bif t32 then
 chkD (0 ≤ (0:Int)) <|
 bindF (t5_0[(0:Int).toNat]?) fun t36 =>
 letkF ((t36.Text.size:Int)) fun t39 =>
 letkF (t39 == (71:Int)) fun t40 =>
 some t40
 else
 some false
 else
 some false
 else
 some false
 else
 some false
 else
 some false
theorem Law3.Awake.c_le:Le (Law3.Awake.c) (Law3.Awake):=by
  unfold Law3.Awake.c Law3.Awake
  repeat' with_reducible (first | refine Le.letkF (by first | rfl | simp only [Lib.toList_data]) (fun z=>?_) | refine Le.chk ?_ | refine Le.bif ?_ ?_ | refine Le.map ?_ | refine Le.loop (fun s=>?_) | exact Src.Old.c_le .. | refine Le.bindF ?_ (fun z=>?_) | exact Le.refl _ | (rcases z with ⟨_,_⟩; dsimp only))
set_option maxRecDepth 1000000 in
theorem Law3.Awake_eq:Law3.Awake = some true:=Law3.Awake.c_le.of (by kernel_rfl)
end Go.Q
