import Derived.Test.YtognkiddigibnaaGreatDoorLG3
import Derived.Test.YtognkiddigibnaaGreatDoorFX
namespace Go.Q
open Go
set_option maxRecDepth 10000
set_option maxHeartbeats 2000000
noncomputable instance:Fc api.Value:=⟨fun x k=>api.Value.rec (motive:=fun _=>_) (fun a b=>Fc.fc a fun a=>Fc.fc b fun b=>k ⟨a,b⟩) x,fun x k=>by cases x; simp only [Fc.eq]⟩
noncomputable instance:Fc listing.item:=⟨fun x k=>listing.item.rec (motive:=fun _=>_) (fun a b=>Fc.fc a fun a=>Fc.fc b fun b=>k ⟨a,b⟩) x,fun x k=>by cases x; simp only [Fc.eq]⟩
theorem Le.chk2 {ρ:Type} {c d:Prop} [Decidable c] {a b:Option ρ} (hcd:c → d) (h:Le a b):Le (chkD c a) (Go.Q.chk d b):=by
  intro r e
  unfold chkD at e
  unfold Go.Q.chk
  by_cases hc:c
  · rw [if_pos (hcd hc)]; rw [decide_eq_true hc] at e; exact h r e
  · rw [decide_eq_false hc] at e; cases e
theorem asc_all {s:ByteArray} (h:s.data.toList.all (fun b=>decide (b.toNat < 128)) = true):Asc s :=
  fun _ b hb=>of_decide_eq_true (List.all_eq_true.1 h b (List.mem_of_getElem? hb))
def Strs.IndexAny.c (s t:ByteArray):Option Int:=chkD (s.size < 4294967281 ∧ t.size < 4294967281 ∧ s.data.toList.all (fun b=>decide (b.toNat < 128)) = true ∧ t.data.toList.all (fun b=>decide (b.toNat < 128)) = true) (some (Lib.indexAny (L s) (L t)))
theorem Strs.IndexAny.c_le (s t:ByteArray):Le (Strs.IndexAny.c s t) (Strs.IndexAny s t):=Le.chk2 (fun h=>⟨h.1,h.2.1,asc_all h.2.2.1,asc_all h.2.2.2⟩) (Le.refl _)
def Strs.Cut.c (s t:ByteArray):Option (ByteArray × ByteArray × Bool):=chkD (s.size < 4294967281) (some (B (Lib.cut (L s) (L t)).1,B (Lib.cut (L s) (L t)).2.1,(Lib.cut (L s) (L t)).2.2))
theorem Strs.Cut.c_le (s t:ByteArray):Le (Strs.Cut.c s t) (Strs.Cut s t):=Le.chk (Le.refl _)
def Strs.TrimLeft.c (s t:ByteArray):Option ByteArray:=chkD (t.size < 4294967281 ∧ t.data.toList.all (fun b=>decide (b.toNat < 128)) = true) (some (B (Lib.trimLeftS (L s) (L t))))
theorem Strs.TrimLeft.c_le (s t:ByteArray):Le (Strs.TrimLeft.c s t) (Strs.TrimLeft s t):=Le.chk2 (fun h=>⟨h.1,asc_all h.2⟩) (Le.refl _)
def Strs.Trim.c (s t:ByteArray):Option ByteArray:=chkD (s.size ≤ 9223372036854775807 ∧ t.size < 4294967281 ∧ t.data.toList.all (fun b=>decide (b.toNat < 128)) = true) (some (B (Lib.trimS (L s) (L t))))
theorem Strs.Trim.c_le (s t:ByteArray):Le (Strs.Trim.c s t) (Strs.Trim s t):=Le.chk2 (fun h=>⟨h.1,h.2.1,asc_all h.2.2⟩) (Le.refl _)
def Strconv.Atoi.c (s:ByteArray):Option (Int × Bool):=chkD (s.size ≤ 281474976710656) (some (match Lib.atoiAll (L s) with | .ok v=>(v,true) | Lib.NumEnd.syntax=>(0,false) | .range=>(Lib.atoiSat (L s),false)))
theorem Strconv.Atoi.c_le (s:ByteArray):Le (Strconv.Atoi.c s) (Strconv.Atoi s):=by
  unfold Strconv.Atoi.c Strconv.Atoi
  exact Le.chk (Le.refl _)
def Slcs.CloneV.c (l:List api.Value):Option (List api.Value):=chkD (l.length * 16 ≤ 140737488355328) (some l)
theorem Slcs.CloneV.c_le (l:List api.Value):Le (Slcs.CloneV.c l) (Slcs.CloneV l):=Le.chk (Le.refl _)
noncomputable def Slcs.IndexFunc___quadrat_api.Value_quadrat_api.Value_.s0.c (s0:List api.Value) (t7:Int) (f1:api.Value → Option Bool) (t8:Int):Option (Int ⊕ Int) :=
  letkF (decide (t8 < t7)) fun t9 =>
  bif t9 then
    chkD (0 ≤ t8) <|
    bindF (s0[t8.toNat]?) fun t14 =>
    bindF (f1 t14) fun t16 =>
    bif t16 then
      some (.inr t8)
    else
      letkF (IntKind.i64.wrap (t8 + (1:Int))) fun t18 =>
      some (.inl t18)
  else
    some (.inr (-1))
theorem Slcs.IndexFunc___quadrat_api.Value_quadrat_api.Value_.s0.c_le (s0:List api.Value) (t7:Int) (f1:api.Value → Option Bool) (t8:Int) (f1':api.Value → Option Bool) (hf1:∀ z0,Le (f1 z0) (f1' z0)):Le (Slcs.IndexFunc___quadrat_api.Value_quadrat_api.Value_.s0.c s0 t7 f1 t8) (Slcs.IndexFunc___quadrat_api.Value_quadrat_api.Value_.s0 s0 t7 f1' t8):=by
  unfold Slcs.IndexFunc___quadrat_api.Value_quadrat_api.Value_.s0.c Slcs.IndexFunc___quadrat_api.Value_quadrat_api.Value_.s0
  repeat' (first | with_reducible refine Le.letkF (by first | rfl | simp only [Lib.toList_data]) (fun z=>?_) | with_reducible refine Le.chk ?_ | with_reducible refine Le.bif ?_ ?_ | with_reducible refine Le.map ?_ | with_reducible refine Le.loop (fun s=>?_) | with_reducible exact hf1 .. | with_reducible refine Le.bindF ?_ (fun z=>?_) | with_reducible exact Le.refl _ | (rcases z with ⟨_,_⟩; dsimp only))
noncomputable def Slcs.IndexFunc___quadrat_api.Value_quadrat_api.Value_.l0.c (s0:List api.Value) (t7:Int) (f1:api.Value → Option Bool) (t8:Int):Option Int:=iterO (fun v:Int=>Slcs.IndexFunc___quadrat_api.Value_quadrat_api.Value_.s0.c s0 t7 f1 v) 3000 t8
theorem Slcs.IndexFunc___quadrat_api.Value_quadrat_api.Value_.l0.c_le (s0:List api.Value) (t7:Int) (f1:api.Value → Option Bool) (t8:Int) (f1':api.Value → Option Bool) (hf1:∀ z0,Le (f1 z0) (f1' z0)):Le (Slcs.IndexFunc___quadrat_api.Value_quadrat_api.Value_.l0.c s0 t7 f1 t8) (Slcs.IndexFunc___quadrat_api.Value_quadrat_api.Value_.l0 s0 t7 f1' t8):=by
  unfold Slcs.IndexFunc___quadrat_api.Value_quadrat_api.Value_.l0.c Slcs.IndexFunc___quadrat_api.Value_quadrat_api.Value_.l0
  repeat' (first | with_reducible refine Le.letkF (by first | rfl | simp only [Lib.toList_data]) (fun z=>?_) | with_reducible refine Le.chk ?_ | with_reducible refine Le.bif ?_ ?_ | with_reducible refine Le.map ?_ | with_reducible refine Le.loop (fun s=>?_) | with_reducible refine Slcs.IndexFunc___quadrat_api.Value_quadrat_api.Value_.s0.c_le _ _ _ _ _ (fun _=>?_) | with_reducible exact hf1 .. | with_reducible refine Le.bindF ?_ (fun z=>?_) | with_reducible exact Le.refl _ | (rcases z with ⟨_,_⟩; dsimp only))
noncomputable def Slcs.IndexFunc___quadrat_api.Value_quadrat_api.Value_.c (s0:List api.Value) (f1:api.Value → Option Bool):Option Int :=
  letkF ((s0.length:Int)) fun t7 =>
  Slcs.IndexFunc___quadrat_api.Value_quadrat_api.Value_.l0.c s0 t7 f1 0
theorem Slcs.IndexFunc___quadrat_api.Value_quadrat_api.Value_.c_le (s0:List api.Value) (f1:api.Value → Option Bool) (f1':api.Value → Option Bool) (hf1:∀ z0,Le (f1 z0) (f1' z0)):Le (Slcs.IndexFunc___quadrat_api.Value_quadrat_api.Value_.c s0 f1) (Slcs.IndexFunc___quadrat_api.Value_quadrat_api.Value_ s0 f1'):=by
  unfold Slcs.IndexFunc___quadrat_api.Value_quadrat_api.Value_.c Slcs.IndexFunc___quadrat_api.Value_quadrat_api.Value_
  repeat' (first | with_reducible refine Le.letkF (by first | rfl | simp only [Lib.toList_data]) (fun z=>?_) | with_reducible refine Le.chk ?_ | with_reducible refine Le.bif ?_ ?_ | with_reducible refine Le.map ?_ | with_reducible refine Le.loop (fun s=>?_) | with_reducible refine Slcs.IndexFunc___quadrat_api.Value_quadrat_api.Value_.l0.c_le _ _ _ _ _ (fun _=>?_) | with_reducible exact hf1 .. | with_reducible refine Le.bindF ?_ (fun z=>?_) | with_reducible exact Le.refl _ | (rcases z with ⟨_,_⟩; dsimp only))
noncomputable def Slcs.ContainsFunc___quadrat_api.Value_quadrat_api.Value_.c (s0:List api.Value) (f1:api.Value → Option Bool):Option Bool :=
  bindF (Slcs.IndexFunc___quadrat_api.Value_quadrat_api.Value_.c s0 f1) fun t7 =>
  letkF (decide (t7 ≥ (0:Int))) fun t8 =>
  some t8
theorem Slcs.ContainsFunc___quadrat_api.Value_quadrat_api.Value_.c_le (s0:List api.Value) (f1:api.Value → Option Bool) (f1':api.Value → Option Bool) (hf1:∀ z0,Le (f1 z0) (f1' z0)):Le (Slcs.ContainsFunc___quadrat_api.Value_quadrat_api.Value_.c s0 f1) (Slcs.ContainsFunc___quadrat_api.Value_quadrat_api.Value_ s0 f1'):=by
  unfold Slcs.ContainsFunc___quadrat_api.Value_quadrat_api.Value_.c Slcs.ContainsFunc___quadrat_api.Value_quadrat_api.Value_
  repeat' (first | with_reducible refine Le.letkF (by first | rfl | simp only [Lib.toList_data]) (fun z=>?_) | with_reducible refine Le.chk ?_ | with_reducible refine Le.bif ?_ ?_ | with_reducible refine Le.map ?_ | with_reducible refine Le.loop (fun s=>?_) | with_reducible refine Slcs.IndexFunc___quadrat_api.Value_quadrat_api.Value_.c_le _ _ _ (fun _=>?_) | with_reducible exact hf1 .. | with_reducible refine Le.bindF ?_ (fun z=>?_) | with_reducible exact Le.refl _ | (rcases z with ⟨_,_⟩; dsimp only))
noncomputable def Arr.bytes.c (kind0:Int):Option Int :=
  letkF (kind0 == (3:Int)) fun t5 =>
  bif t5 then
    some 4
  else
    letkF (kind0 == (4:Int)) fun t7 =>
    bif t7 then
      some 8
    else
      some 0
theorem Arr.bytes.c_le (kind0:Int):Le (Arr.bytes.c kind0) (Arr.bytes kind0):=by
  unfold Arr.bytes.c Arr.bytes
  repeat' (first | with_reducible refine Le.letkF (by first | rfl | simp only [Lib.toList_data]) (fun z=>?_) | with_reducible refine Le.chk ?_ | with_reducible refine Le.bif ?_ ?_ | with_reducible refine Le.map ?_ | with_reducible refine Le.loop (fun s=>?_) | with_reducible refine Le.bindF ?_ (fun z=>?_) | with_reducible exact Le.refl _ | (rcases z with ⟨_,_⟩; dsimp only))
noncomputable def Flt.Valid.c (kind0:Int) (a1:Int):Option Bool:=none
theorem Flt.Valid.c_le (kind0:Int) (a1:Int):Le (Flt.Valid.c kind0 a1) (Flt.Valid kind0 a1):=Le.none _
noncomputable def Arr.fits.j0.c (kind0:Int) (n1:Int) (t22:Bool):Option Bool :=
  bif t22 then
    bindF (Arr.bytes.c kind0) fun t26 =>
    bindF (Flt.Valid.c t26 n1) fun t28 =>
    some t28
  else
    some false
theorem Arr.fits.j0.c_le (kind0:Int) (n1:Int) (t22:Bool):Le (Arr.fits.j0.c kind0 n1 t22) (Arr.fits.j0 kind0 n1 t22):=by
  unfold Arr.fits.j0.c Arr.fits.j0
  repeat' (first | with_reducible refine Le.letkF (by first | rfl | simp only [Lib.toList_data]) (fun z=>?_) | with_reducible refine Le.chk ?_ | with_reducible refine Le.bif ?_ ?_ | with_reducible refine Le.map ?_ | with_reducible refine Le.loop (fun s=>?_) | with_reducible exact Arr.bytes.c_le .. | with_reducible exact Flt.Valid.c_le .. | with_reducible refine Le.bindF ?_ (fun z=>?_) | with_reducible exact Le.refl _ | (rcases z with ⟨_,_⟩; dsimp only))
noncomputable def Arr.fits.c (kind0:Int) (n1:Int):Option Bool :=
  letkF (kind0 == (1:Int)) fun t7 =>
  bif t7 then
    letkF (decide (n1 ≥ ((-2147483647):Int))) fun t9 =>
    bif t9 then
      letkF (decide (n1 ≤ (2147483647:Int))) fun t12 =>
      some t12
    else
      some false
  else
    letkF (kind0 == (2:Int)) fun t15 =>
    bif t15 then
      letkF (n1 == (0:Int)) fun t17 =>
      bif t17 then
        some true
      else
        letkF (n1 == (1:Int)) fun t20 =>
        some t20
    else
      letkF (kind0 == (3:Int)) fun t23 =>
      bif t23 then
        Arr.fits.j0.c kind0 n1 true
      else
        letkF (kind0 == (4:Int)) fun t24 =>
        Arr.fits.j0.c kind0 n1 t24
theorem Arr.fits.c_le (kind0:Int) (n1:Int):Le (Arr.fits.c kind0 n1) (Arr.fits kind0 n1):=by
  unfold Arr.fits.c Arr.fits
  repeat' (first | with_reducible refine Le.letkF (by first | rfl | simp only [Lib.toList_data]) (fun z=>?_) | with_reducible refine Le.chk ?_ | with_reducible refine Le.bif ?_ ?_ | with_reducible refine Le.map ?_ | with_reducible refine Le.loop (fun s=>?_) | with_reducible exact Arr.fits.j0.c_le .. | with_reducible refine Le.bindF ?_ (fun z=>?_) | with_reducible exact Le.refl _ | (rcases z with ⟨_,_⟩; dsimp only))
noncomputable def Arr.IsValue.c (v0:api.Value):Option Bool :=
  bindF (Arr.fits.c v0.Kind v0.N) fun t7 =>
  some t7
theorem Arr.IsValue.c_le (v0:api.Value):Le (Arr.IsValue.c v0) (Arr.IsValue v0):=by
  unfold Arr.IsValue.c Arr.IsValue
  repeat' (first | with_reducible refine Le.letkF (by first | rfl | simp only [Lib.toList_data]) (fun z=>?_) | with_reducible refine Le.chk ?_ | with_reducible refine Le.bif ?_ ?_ | with_reducible refine Le.map ?_ | with_reducible refine Le.loop (fun s=>?_) | with_reducible exact Arr.fits.c_le .. | with_reducible refine Le.bindF ?_ (fun z=>?_) | with_reducible exact Le.refl _ | (rcases z with ⟨_,_⟩; dsimp only))
noncomputable def Lst.areValues_1.c (v0:api.Value):Option Bool :=
  bindF (Arr.IsValue.c (⟨v0.Kind,v0.N⟩:api.Value)) fun t4 =>
  letkF (!t4) fun t5 =>
  some t5
theorem Lst.areValues_1.c_le (v0:api.Value):Le (Lst.areValues_1.c v0) (Lst.areValues_1 v0):=by
  unfold Lst.areValues_1.c Lst.areValues_1
  repeat' (first | with_reducible refine Le.letkF (by first | rfl | simp only [Lib.toList_data]) (fun z=>?_) | with_reducible refine Le.chk ?_ | with_reducible refine Le.bif ?_ ?_ | with_reducible refine Le.map ?_ | with_reducible refine Le.loop (fun s=>?_) | with_reducible exact Arr.IsValue.c_le .. | with_reducible refine Le.bindF ?_ (fun z=>?_) | with_reducible exact Le.refl _ | (rcases z with ⟨_,_⟩; dsimp only))
noncomputable def Lst.areValues.c (l0:List api.Value):Option Bool :=
  letkF ((l0.length:Int)) fun t4 =>
  letkF (decide (t4 ≤ (500:Int))) fun t5 =>
  bif t5 then
    bindF (Slcs.ContainsFunc___quadrat_api.Value_quadrat_api.Value_.c l0 Lst.areValues_1.c) fun t8 =>
    letkF (!t8) fun t9 =>
    some t9
  else
    some false
theorem Lst.areValues.c_le (l0:List api.Value):Le (Lst.areValues.c l0) (Lst.areValues l0):=by
  unfold Lst.areValues.c Lst.areValues
  repeat' (first | with_reducible refine Le.letkF (by first | rfl | simp only [Lib.toList_data]) (fun z=>?_) | with_reducible refine Le.chk ?_ | with_reducible refine Le.bif ?_ ?_ | with_reducible refine Le.map ?_ | with_reducible refine Le.loop (fun s=>?_) | with_reducible refine Slcs.ContainsFunc___quadrat_api.Value_quadrat_api.Value_.c_le _ _ _ (fun _=>?_) | with_reducible exact Lst.areValues_1.c_le .. | with_reducible refine Le.bindF ?_ (fun z=>?_) | with_reducible exact Le.refl _ | (rcases z with ⟨_,_⟩; dsimp only))
noncomputable def Lst.isText.s0.c (s0:ByteArray) (t6:List Int) (t7:Int) (t8:Int):Option (Int ⊕ Bool) :=
  letkF (decide (t8 < t7)) fun t9 =>
  bif t9 then
    chkD (0 ≤ t8 ∧ t8 < (t6.length:Int)) <|
    letkF (0 + t8.toNat) fun t10 =>
    bindF (t6[t10]?) fun t11 =>
    letkF (t11 != (10:Int)) fun t13 =>
    bif t13 then
      letkF (decide (t11 < (32:Int))) fun t16 =>
      bif t16 then
        some (.inr false)
      else
        letkF (decide (t11 > (126:Int))) fun t19 =>
        bif t19 then
          some (.inr false)
        else
          letkF (IntKind.i64.wrap (t8 + (1:Int))) fun t22_1 =>
          some (.inl t22_1)
    else
      letkF (IntKind.i64.wrap (t8 + (1:Int))) fun t22 =>
      some (.inl t22)
  else
    ((
    letkF ((s0.size:Int)) fun t24 =>
    letkF (decide (t24 ≤ (8000:Int))) fun t25 =>
    some t25)).map .inr
theorem Lst.isText.s0.c_le (s0:ByteArray) (t6:List Int) (t7:Int) (t8:Int):Le (Lst.isText.s0.c s0 t6 t7 t8) (Lst.isText.s0 s0 t6 t7 t8):=by
  unfold Lst.isText.s0.c Lst.isText.s0
  repeat' (first | with_reducible refine Le.letkF (by first | rfl | simp only [Lib.toList_data]) (fun z=>?_) | with_reducible refine Le.chk ?_ | with_reducible refine Le.bif ?_ ?_ | with_reducible refine Le.map ?_ | with_reducible refine Le.loop (fun s=>?_) | with_reducible refine Le.bindF ?_ (fun z=>?_) | with_reducible exact Le.refl _ | (rcases z with ⟨_,_⟩; dsimp only))
noncomputable def Lst.isText.l0.c (s0:ByteArray) (t6:List Int) (t7:Int) (t8:Int):Option Bool:=iterO (fun v:Int=>Lst.isText.s0.c s0 t6 t7 v) 3000 t8
theorem Lst.isText.l0.c_le (s0:ByteArray) (t6:List Int) (t7:Int) (t8:Int):Le (Lst.isText.l0.c s0 t6 t7 t8) (Lst.isText.l0 s0 t6 t7 t8):=by
  unfold Lst.isText.l0.c Lst.isText.l0
  repeat' (first | with_reducible refine Le.letkF (by first | rfl | simp only [Lib.toList_data]) (fun z=>?_) | with_reducible refine Le.chk ?_ | with_reducible refine Le.bif ?_ ?_ | with_reducible refine Le.map ?_ | with_reducible refine Le.loop (fun s=>?_) | with_reducible exact Lst.isText.s0.c_le .. | with_reducible refine Le.bindF ?_ (fun z=>?_) | with_reducible exact Le.refl _ | (rcases z with ⟨_,_⟩; dsimp only))
noncomputable def Lst.isText.c (s0:ByteArray):Option Bool :=
  letkF (bytesI s0) fun t6 =>
  letkF ((t6.length:Int)) fun t7 =>
  Lst.isText.l0.c s0 t6 t7 0
theorem Lst.isText.c_le (s0:ByteArray):Le (Lst.isText.c s0) (Lst.isText s0):=by
  unfold Lst.isText.c Lst.isText
  repeat' (first | with_reducible refine Le.letkF (by first | rfl | simp only [Lib.toList_data]) (fun z=>?_) | with_reducible refine Le.chk ?_ | with_reducible refine Le.bif ?_ ?_ | with_reducible refine Le.map ?_ | with_reducible refine Le.loop (fun s=>?_) | with_reducible exact Lst.isText.l0.c_le .. | with_reducible refine Le.bindF ?_ (fun z=>?_) | with_reducible exact Le.refl _ | (rcases z with ⟨_,_⟩; dsimp only))
noncomputable def Lst.reader.blanks.c (r0_0:ByteArray):Option ByteArray :=
  bindF (Strs.TrimLeft.c r0_0 ⟨#[32,10]⟩) fun t7 =>
  some t7
theorem Lst.reader.blanks.c_le (r0_0:ByteArray):Le (Lst.reader.blanks.c r0_0) (Lst.reader.blanks r0_0):=by
  unfold Lst.reader.blanks.c Lst.reader.blanks
  repeat' (first | with_reducible refine Le.letkF (by first | rfl | simp only [Lib.toList_data]) (fun z=>?_) | with_reducible refine Le.chk ?_ | with_reducible refine Le.bif ?_ ?_ | with_reducible refine Le.map ?_ | with_reducible refine Le.loop (fun s=>?_) | with_reducible exact Strs.TrimLeft.c_le .. | with_reducible refine Le.bindF ?_ (fun z=>?_) | with_reducible exact Le.refl _ | (rcases z with ⟨_,_⟩; dsimp only))
noncomputable def Slite.HasPrefix.c (s0:ByteArray) (prefix1:ByteArray):Option Bool :=
  letkF ((s0.size:Int)) fun t6 =>
  letkF ((prefix1.size:Int)) fun t8 =>
  letkF (decide (t6 ≥ t8)) fun t9 =>
  bif t9 then
    letkF ((prefix1.size:Int)) fun t13 =>
    chkD (0 ≤ t13 ∧ t13 ≤ (s0.size:Int)) <|
    letkF (s0.extract 0 t13.toNat) fun t14 =>
    letkF (t14.data.toList == prefix1.data.toList) fun t16 =>
    some t16
  else
    some false
theorem Slite.HasPrefix.c_le (s0:ByteArray) (prefix1:ByteArray):Le (Slite.HasPrefix.c s0 prefix1) (Slite.HasPrefix s0 prefix1):=by
  unfold Slite.HasPrefix.c Slite.HasPrefix
  repeat' (first | with_reducible refine Le.letkF (by first | rfl | simp only [Lib.toList_data]) (fun z=>?_) | with_reducible refine Le.chk ?_ | with_reducible refine Le.bif ?_ ?_ | with_reducible refine Le.map ?_ | with_reducible refine Le.loop (fun s=>?_) | with_reducible refine Le.bindF ?_ (fun z=>?_) | with_reducible exact Le.refl _ | (rcases z with ⟨_,_⟩; dsimp only))
noncomputable def Strs.HasPrefix.c (s0:ByteArray) (prefix1:ByteArray):Option Bool :=
  bindF (Slite.HasPrefix.c s0 prefix1) fun t7 =>
  some t7
theorem Strs.HasPrefix.c_le (s0:ByteArray) (prefix1:ByteArray):Le (Strs.HasPrefix.c s0 prefix1) (Strs.HasPrefix s0 prefix1):=by
  unfold Strs.HasPrefix.c Strs.HasPrefix
  repeat' (first | with_reducible refine Le.letkF (by first | rfl | simp only [Lib.toList_data]) (fun z=>?_) | with_reducible refine Le.chk ?_ | with_reducible refine Le.bif ?_ ?_ | with_reducible refine Le.map ?_ | with_reducible refine Le.loop (fun s=>?_) | with_reducible exact Slite.HasPrefix.c_le .. | with_reducible refine Le.bindF ?_ (fun z=>?_) | with_reducible exact Le.refl _ | (rcases z with ⟨_,_⟩; dsimp only))
noncomputable def Lst.reader.ended.c (r0_0:ByteArray):Option (ByteArray × Bool × Bool) :=
  bindF (Lst.reader.blanks.c r0_0) fun o_0 =>
  letkF (o_0.data.toList == (⟨#[]⟩:ByteArray).data.toList) fun t10 =>
  bindF (Strs.HasPrefix.c o_0 ⟨#[47]⟩) fun t15 =>
  some (o_0,t10,t15)
theorem Lst.reader.ended.c_le (r0_0:ByteArray):Le (Lst.reader.ended.c r0_0) (Lst.reader.ended r0_0):=by
  unfold Lst.reader.ended.c Lst.reader.ended
  repeat' (first | with_reducible refine Le.letkF (by first | rfl | simp only [Lib.toList_data]) (fun z=>?_) | with_reducible refine Le.chk ?_ | with_reducible refine Le.bif ?_ ?_ | with_reducible refine Le.map ?_ | with_reducible refine Le.loop (fun s=>?_) | with_reducible exact Lst.reader.blanks.c_le .. | with_reducible exact Strs.HasPrefix.c_le .. | with_reducible refine Le.bindF ?_ (fun z=>?_) | with_reducible exact Le.refl _ | (rcases z with ⟨_,_⟩; dsimp only))
noncomputable def Slite.CutPrefix.c (s0:ByteArray) (prefix1:ByteArray):Option (ByteArray × Bool) :=
  bindF (Slite.HasPrefix.c s0 prefix1) fun t8 =>
  letkF (!t8) fun t9 =>
  bif t9 then
    some (s0,false)
  else
    letkF ((prefix1.size:Int)) fun t13 =>
    chkD (0 ≤ t13 ∧ t13 ≤ (s0.size:Int)) <|
    letkF (s0.extract t13.toNat s0.size) fun t14 =>
    some (t14,true)
theorem Slite.CutPrefix.c_le (s0:ByteArray) (prefix1:ByteArray):Le (Slite.CutPrefix.c s0 prefix1) (Slite.CutPrefix s0 prefix1):=by
  unfold Slite.CutPrefix.c Slite.CutPrefix
  repeat' (first | with_reducible refine Le.letkF (by first | rfl | simp only [Lib.toList_data]) (fun z=>?_) | with_reducible refine Le.chk ?_ | with_reducible refine Le.bif ?_ ?_ | with_reducible refine Le.map ?_ | with_reducible refine Le.loop (fun s=>?_) | with_reducible exact Slite.HasPrefix.c_le .. | with_reducible refine Le.bindF ?_ (fun z=>?_) | with_reducible exact Le.refl _ | (rcases z with ⟨_,_⟩; dsimp only))
noncomputable def Strs.CutPrefix.c (s0:ByteArray) (prefix1:ByteArray):Option (ByteArray × Bool) :=
  bindF (Slite.CutPrefix.c s0 prefix1) fun (t8_0,t8_1) =>
  some (t8_0,t8_1)
theorem Strs.CutPrefix.c_le (s0:ByteArray) (prefix1:ByteArray):Le (Strs.CutPrefix.c s0 prefix1) (Strs.CutPrefix s0 prefix1):=by
  unfold Strs.CutPrefix.c Strs.CutPrefix
  repeat' (first | with_reducible refine Le.letkF (by first | rfl | simp only [Lib.toList_data]) (fun z=>?_) | with_reducible refine Le.chk ?_ | with_reducible refine Le.bif ?_ ?_ | with_reducible refine Le.map ?_ | with_reducible refine Le.loop (fun s=>?_) | with_reducible exact Slite.CutPrefix.c_le .. | with_reducible refine Le.bindF ?_ (fun z=>?_) | with_reducible exact Le.refl _ | (rcases z with ⟨_,_⟩; dsimp only))
noncomputable def Lst.reader.comma.c (r0_0:ByteArray):Option (ByteArray × Bool) :=
  bindF (Lst.reader.blanks.c r0_0) fun o_0 =>
  bindF (Strs.CutPrefix.c o_0 ⟨#[44]⟩) fun (t12_0,t12_1) =>
  some (t12_0,t12_1)
theorem Lst.reader.comma.c_le (r0_0:ByteArray):Le (Lst.reader.comma.c r0_0) (Lst.reader.comma r0_0):=by
  unfold Lst.reader.comma.c Lst.reader.comma
  repeat' (first | with_reducible refine Le.letkF (by first | rfl | simp only [Lib.toList_data]) (fun z=>?_) | with_reducible refine Le.chk ?_ | with_reducible refine Le.bif ?_ ?_ | with_reducible refine Le.map ?_ | with_reducible refine Le.loop (fun s=>?_) | with_reducible exact Lst.reader.blanks.c_le .. | with_reducible exact Strs.CutPrefix.c_le .. | with_reducible refine Le.bindF ?_ (fun z=>?_) | with_reducible exact Le.refl _ | (rcases z with ⟨_,_⟩; dsimp only))
noncomputable def Lst.reader.next_.j0.c (t40_1:ByteArray) (t52_0:Int) (r0:ByteArray) (t2_0:Int) (t2_1:ByteArray) (t69:Bool):Option (ByteArray × listing.item × Int) :=
  bif t69 then
    some (r0,(⟨0,⟨#[]⟩⟩:listing.item),3)
  else
    some (r0,(⟨t52_0,t40_1⟩:listing.item),0)
theorem Lst.reader.next_.j0.c_le (t40_1:ByteArray) (t52_0:Int) (r0:ByteArray) (t2_0:Int) (t2_1:ByteArray) (t69:Bool):Le (Lst.reader.next_.j0.c t40_1 t52_0 r0 t2_0 t2_1 t69) (Lst.reader.next_.j0 t40_1 t52_0 r0 t2_0 t2_1 t69):=by
  unfold Lst.reader.next_.j0.c Lst.reader.next_.j0
  repeat' (first | with_reducible refine Le.letkF (by first | rfl | simp only [Lib.toList_data]) (fun z=>?_) | with_reducible refine Le.chk ?_ | with_reducible refine Le.bif ?_ ?_ | with_reducible refine Le.map ?_ | with_reducible refine Le.loop (fun s=>?_) | with_reducible refine Le.bindF ?_ (fun z=>?_) | with_reducible exact Le.refl _ | (rcases z with ⟨_,_⟩; dsimp only))
noncomputable def Lst.reader.next_.j1.c (t40_1:ByteArray) (t52_0:Int) (r0_1:ByteArray) (t2_0_1:Int) (t2_1_1:ByteArray) (t69_1:Bool):Option (ByteArray × listing.item × Int) :=
  bif t69_1 then
    some (r0_1,(⟨0,⟨#[]⟩⟩:listing.item),3)
  else
    some (r0_1,(⟨t52_0,t40_1⟩:listing.item),0)
theorem Lst.reader.next_.j1.c_le (t40_1:ByteArray) (t52_0:Int) (r0_1:ByteArray) (t2_0_1:Int) (t2_1_1:ByteArray) (t69_1:Bool):Le (Lst.reader.next_.j1.c t40_1 t52_0 r0_1 t2_0_1 t2_1_1 t69_1) (Lst.reader.next_.j1 t40_1 t52_0 r0_1 t2_0_1 t2_1_1 t69_1):=by
  unfold Lst.reader.next_.j1.c Lst.reader.next_.j1
  repeat' (first | with_reducible refine Le.letkF (by first | rfl | simp only [Lib.toList_data]) (fun z=>?_) | with_reducible refine Le.chk ?_ | with_reducible refine Le.bif ?_ ?_ | with_reducible refine Le.map ?_ | with_reducible refine Le.loop (fun s=>?_) | with_reducible refine Le.bindF ?_ (fun z=>?_) | with_reducible exact Le.refl _ | (rcases z with ⟨_,_⟩; dsimp only))
noncomputable def Lst.reader.next_.c (r0_0:ByteArray):Option (ByteArray × listing.item × Int) :=
  bindF (Lst.reader.comma.c r0_0) fun (o_0,t13) =>
  bif t13 then
    some (o_0,(⟨1,⟨#[]⟩⟩:listing.item),0)
  else
    chkD (((o_0.size + (⟨#[32]⟩:ByteArray).size:Nat):Int) ≤ 9223372036854775807) <|
    letkF (o_0 ++ (⟨#[32]⟩:ByteArray)) fun t19 =>
    bindF (Strs.IndexAny.c t19 ⟨#[32,10,44,47]⟩) fun t20 =>
    chkD (0 ≤ t20 ∧ t20 ≤ (o_0.size:Int)) <|
    letkF (o_0.extract 0 t20.toNat) fun t26 =>
    chkD (0 ≤ t20 ∧ t20 ≤ (o_0.size:Int)) <|
    letkF (o_0.extract t20.toNat o_0.size) fun t33 =>
    bindF (Lst.reader.comma.c t33) fun (o_0_1,t37) =>
    bindF (Strs.Cut.c t26 ⟨#[42]⟩) fun (t40_0,t40_1,t40_2) =>
    letkF (!t40_2) fun t45 =>
    bif t45 then
      some (o_0_1,(⟨1,t26⟩:listing.item),0)
    else
      bindF (Strs.TrimLeft.c t40_0 ⟨#[48]⟩) fun t49 =>
      bindF (Strconv.Atoi.c t49) fun (t52_0,t52_1) =>
      bif t52_1 then
        bindF (Strs.Trim.c t49 ⟨#[48,49,50,51,52,53,54,55,56,57]⟩) fun t59 =>
        letkF (!(t59.data.toList == (⟨#[]⟩:ByteArray).data.toList)) fun t60 =>
        bif t60 then
          Lst.reader.next_.j1.c t40_1 t52_0 o_0_1 0 (⟨#[]⟩) true
        else
          letkF (decide (t52_0 < (1:Int))) fun t64 =>
          bif t64 then
            Lst.reader.next_.j1.c t40_1 t52_0 o_0_1 0 (⟨#[]⟩) true
          else
            letkF (decide (t52_0 > (999:Int))) fun t68 =>
            Lst.reader.next_.j1.c t40_1 t52_0 o_0_1 0 (⟨#[]⟩) t68
      else
        Lst.reader.next_.j0.c t40_1 t52_0 o_0_1 0 (⟨#[]⟩) true
theorem Lst.reader.next_.c_le (r0_0:ByteArray):Le (Lst.reader.next_.c r0_0) (Lst.reader.next_ r0_0):=by
  unfold Lst.reader.next_.c Lst.reader.next_
  repeat' (first | with_reducible refine Le.letkF (by first | rfl | simp only [Lib.toList_data]) (fun z=>?_) | with_reducible refine Le.chk ?_ | with_reducible refine Le.bif ?_ ?_ | with_reducible refine Le.map ?_ | with_reducible refine Le.loop (fun s=>?_) | with_reducible exact Lst.reader.comma.c_le .. | with_reducible exact Lst.reader.next_.j0.c_le .. | with_reducible exact Lst.reader.next_.j1.c_le .. | with_reducible exact Strs.IndexAny.c_le .. | with_reducible exact Strs.Cut.c_le .. | with_reducible exact Strs.TrimLeft.c_le .. | with_reducible exact Strs.Trim.c_le .. | with_reducible exact Strconv.Atoi.c_le .. | with_reducible refine Le.bindF ?_ (fun z=>?_) | with_reducible exact Le.refl _ | (rcases z with ⟨_,_⟩; dsimp only))
noncomputable def Lst.integer.j1.c (s0:ByteArray) (digits4:ByteArray) (t2_0:Int) (t2_1:Int):Option (api.Value × Int) :=
  bindF (Strconv.Atoi.c digits4) fun (t37_0,t37_1) =>
  bif t37_1 then
    letkF (decide (t37_0 > (2147483647:Int))) fun t41_1 =>
    bif t41_1 then
      some ((⟨0,0⟩:api.Value),10)
    else
      chkD (0 ≤ (0:Int) ∧ (0:Int) < (s0.size:Int)) <|
      letkF (bt s0 (0:Int)) fun t44_1 =>
      letkF (t44_1 == (45:Int)) fun t45_1 =>
      bif t45_1 then
        letkF (IntKind.i64.wrap (0 - t37_0)) fun t47_1 =>
        some ((⟨1,t47_1⟩:api.Value),0)
      else
        some ((⟨1,t37_0⟩:api.Value),0)
  else
    letkF (decide (t37_0 > (2147483647:Int))) fun t41 =>
    bif t41 then
      some ((⟨0,0⟩:api.Value),10)
    else
      chkD (0 ≤ (0:Int) ∧ (0:Int) < (s0.size:Int)) <|
      letkF (bt s0 (0:Int)) fun t44 =>
      letkF (t44 == (45:Int)) fun t45 =>
      bif t45 then
        letkF (IntKind.i64.wrap (0 - t37_0)) fun t47 =>
        some ((⟨1,t47⟩:api.Value),0)
      else
        some ((⟨1,t37_0⟩:api.Value),0)
theorem Lst.integer.j1.c_le (s0:ByteArray) (digits4:ByteArray) (t2_0:Int) (t2_1:Int):Le (Lst.integer.j1.c s0 digits4 t2_0 t2_1) (Lst.integer.j1 s0 digits4 t2_0 t2_1):=by
  unfold Lst.integer.j1.c Lst.integer.j1
  repeat' (first | with_reducible refine Le.letkF (by first | rfl | simp only [Lib.toList_data]) (fun z=>?_) | with_reducible refine Le.chk ?_ | with_reducible refine Le.bif ?_ ?_ | with_reducible refine Le.map ?_ | with_reducible refine Le.loop (fun s=>?_) | with_reducible exact Strconv.Atoi.c_le .. | with_reducible refine Le.bindF ?_ (fun z=>?_) | with_reducible exact Le.refl _ | (rcases z with ⟨_,_⟩; dsimp only))
noncomputable def Lst.integer.j2.c (s0:ByteArray) (digits4:ByteArray) (t2_0_1:Int) (t2_1_1:Int) (t33:Bool):Option (api.Value × Int) :=
  bif t33 then
    some ((⟨0,0⟩:api.Value),3)
  else
    Lst.integer.j1.c s0 digits4 t2_0_1 t2_1_1
theorem Lst.integer.j2.c_le (s0:ByteArray) (digits4:ByteArray) (t2_0_1:Int) (t2_1_1:Int) (t33:Bool):Le (Lst.integer.j2.c s0 digits4 t2_0_1 t2_1_1 t33) (Lst.integer.j2 s0 digits4 t2_0_1 t2_1_1 t33):=by
  unfold Lst.integer.j2.c Lst.integer.j2
  repeat' (first | with_reducible refine Le.letkF (by first | rfl | simp only [Lib.toList_data]) (fun z=>?_) | with_reducible refine Le.chk ?_ | with_reducible refine Le.bif ?_ ?_ | with_reducible refine Le.map ?_ | with_reducible refine Le.loop (fun s=>?_) | with_reducible exact Lst.integer.j1.c_le .. | with_reducible refine Le.bindF ?_ (fun z=>?_) | with_reducible exact Le.refl _ | (rcases z with ⟨_,_⟩; dsimp only))
noncomputable def Lst.integer.j0.c (s0:ByteArray) (digits4:ByteArray):Option (api.Value × Int) :=
  letkF (digits4.data.toList == (⟨#[]⟩:ByteArray).data.toList) fun t23 =>
  bif t23 then
    Lst.integer.j2.c s0 digits4 0 0 true
  else
    letkF ((digits4.size:Int)) fun t26 =>
    letkF (decide (t26 > (10:Int))) fun t27 =>
    bif t27 then
      Lst.integer.j2.c s0 digits4 0 0 true
    else
      bindF (Strs.Trim.c digits4 ⟨#[48,49,50,51,52,53,54,55,56,57]⟩) fun t31 =>
      letkF (!(t31.data.toList == (⟨#[]⟩:ByteArray).data.toList)) fun t32 =>
      Lst.integer.j2.c s0 digits4 0 0 t32
theorem Lst.integer.j0.c_le (s0:ByteArray) (digits4:ByteArray):Le (Lst.integer.j0.c s0 digits4) (Lst.integer.j0 s0 digits4):=by
  unfold Lst.integer.j0.c Lst.integer.j0
  repeat' (first | with_reducible refine Le.letkF (by first | rfl | simp only [Lib.toList_data]) (fun z=>?_) | with_reducible refine Le.chk ?_ | with_reducible refine Le.bif ?_ ?_ | with_reducible refine Le.map ?_ | with_reducible refine Le.loop (fun s=>?_) | with_reducible exact Lst.integer.j2.c_le .. | with_reducible exact Strs.Trim.c_le .. | with_reducible refine Le.bindF ?_ (fun z=>?_) | with_reducible exact Le.refl _ | (rcases z with ⟨_,_⟩; dsimp only))
noncomputable def Lst.integer.c (s0:ByteArray):Option (api.Value × Int) :=
  letkF (!(s0.data.toList == (⟨#[]⟩:ByteArray).data.toList)) fun t9 =>
  bif t9 then
    chkD (0 ≤ (0:Int) ∧ (0:Int) < (s0.size:Int)) <|
    letkF (bt s0 (0:Int)) fun t12 =>
    letkF (t12 == (45:Int)) fun t13 =>
    bif t13 then
      chkD (0 ≤ (1:Int) ∧ (1:Int) ≤ (s0.size:Int)) <|
      letkF (s0.extract (1:Int).toNat s0.size) fun t21_1 =>
      Lst.integer.j0.c s0 t21_1
    else
      chkD (0 ≤ (0:Int) ∧ (0:Int) < (s0.size:Int)) <|
      letkF (bt s0 (0:Int)) fun t16 =>
      letkF (t16 == (43:Int)) fun t17 =>
      bif t17 then
        chkD (0 ≤ (1:Int) ∧ (1:Int) ≤ (s0.size:Int)) <|
        letkF (s0.extract (1:Int).toNat s0.size) fun t21 =>
        Lst.integer.j0.c s0 t21
      else
        Lst.integer.j0.c s0 s0
  else
    Lst.integer.j0.c s0 s0
theorem Lst.integer.c_le (s0:ByteArray):Le (Lst.integer.c s0) (Lst.integer s0):=by
  unfold Lst.integer.c Lst.integer
  repeat' (first | with_reducible refine Le.letkF (by first | rfl | simp only [Lib.toList_data]) (fun z=>?_) | with_reducible refine Le.chk ?_ | with_reducible refine Le.bif ?_ ?_ | with_reducible refine Le.map ?_ | with_reducible refine Le.loop (fun s=>?_) | with_reducible exact Lst.integer.j0.c_le .. | with_reducible refine Le.bindF ?_ (fun z=>?_) | with_reducible exact Le.refl _ | (rcases z with ⟨_,_⟩; dsimp only))
noncomputable def Lst.value.c (s0:ByteArray) (kind1:Int):Option (api.Value × Int) :=
  letkF (kind1 == (1:Int)) fun t12 =>
  bif t12 then
    bindF (Lst.integer.c s0) fun (t14_0,t14_1) =>
    some ((⟨t14_0.Kind,t14_0.N⟩:api.Value),t14_1)
  else
    letkF (kind1 == (2:Int)) fun t18 =>
    bif t18 then
      none
    else
      none
theorem Lst.value.c_le (s0:ByteArray) (kind1:Int):Le (Lst.value.c s0 kind1) (Lst.value s0 kind1):=by
  unfold Lst.value.c Lst.value
  repeat' (first | with_reducible refine Le.letkF (by first | rfl | simp only [Lib.toList_data]) (fun z=>?_) | with_reducible refine Le.chk ?_ | with_reducible refine Le.bif ?_ ?_ | with_reducible refine Le.map ?_ | with_reducible refine Le.loop (fun s=>?_) | with_reducible exact Lst.integer.c_le .. | with_reducible refine Le.bindF ?_ (fun z=>?_) | with_reducible exact Le.refl _ | (rcases z with ⟨_,_⟩; dsimp only))
noncomputable def Lst.Input.j2.c (was1:List api.Value) (out6_3:List api.Value) (r7_3:ByteArray) (at8_2:Int) (x11_0_2:Int) (x11_1_2:ByteArray):Option (((List api.Value) × ByteArray × Int × Int × ByteArray) ⊕ (((List api.Value) × ByteArray × Int) ⊕ ((List api.Value) × Int))) :=
  letkF (IntKind.i64.wrap (x11_0_2 - (1:Int))) fun t59 =>
  some (.inl (out6_3,r7_3,at8_2,t59,x11_1_2))
theorem Lst.Input.j2.c_le (was1:List api.Value) (out6_3:List api.Value) (r7_3:ByteArray) (at8_2:Int) (x11_0_2:Int) (x11_1_2:ByteArray):Le (Lst.Input.j2.c was1 out6_3 r7_3 at8_2 x11_0_2 x11_1_2) (Lst.Input.j2 was1 out6_3 r7_3 at8_2 x11_0_2 x11_1_2):=by
  unfold Lst.Input.j2.c Lst.Input.j2
  repeat' (first | with_reducible refine Le.letkF (by first | rfl | simp only [Lib.toList_data]) (fun z=>?_) | with_reducible refine Le.chk ?_ | with_reducible refine Le.bif ?_ ?_ | with_reducible refine Le.map ?_ | with_reducible refine Le.loop (fun s=>?_) | with_reducible refine Le.bindF ?_ (fun z=>?_) | with_reducible exact Le.refl _ | (rcases z with ⟨_,_⟩; dsimp only))
noncomputable def Lst.Input.j1.c (was1:List api.Value) (at8_1:Int) (out6_2:List api.Value) (r7_2:ByteArray) (x11_0_1:Int) (x11_1_1:ByteArray):Option (((List api.Value) × ByteArray × Int × Int × ByteArray) ⊕ (((List api.Value) × ByteArray × Int) ⊕ ((List api.Value) × Int))) :=
  letkF (!(x11_1_1.data.toList == (⟨#[]⟩:ByteArray).data.toList)) fun t63 =>
  bif t63 then
    chkD (0 ≤ at8_1) <|
    bindF (was1[at8_1.toNat]?) fun t71 =>
    bindF (Lst.value.c x11_1_1 t71.Kind) fun (t74_0,t74_1) =>
    chkD (0 ≤ at8_1 ∧ at8_1 < (out6_2.length:Int)) <|
    letkF (0 + at8_1.toNat) fun t77 =>
    bindF (out6_2[t77]?) fun old =>
    letkF (out6_2.set t77 ((⟨t74_0.Kind,t74_0.N⟩:api.Value))) fun l =>
    letkF (t74_1 != (0:Int)) fun t79 =>
    bif t79 then
      some (.inr (.inr ([],t74_1)))
    else
      letkF (IntKind.i64.wrap (at8_1 + (1:Int))) fun t82_1 =>
      Lst.Input.j2.c was1 l r7_2 t82_1 x11_0_1 x11_1_1
  else
    letkF (IntKind.i64.wrap (at8_1 + (1:Int))) fun t82 =>
    Lst.Input.j2.c was1 out6_2 r7_2 t82 x11_0_1 x11_1_1
theorem Lst.Input.j1.c_le (was1:List api.Value) (at8_1:Int) (out6_2:List api.Value) (r7_2:ByteArray) (x11_0_1:Int) (x11_1_1:ByteArray):Le (Lst.Input.j1.c was1 at8_1 out6_2 r7_2 x11_0_1 x11_1_1) (Lst.Input.j1 was1 at8_1 out6_2 r7_2 x11_0_1 x11_1_1):=by
  unfold Lst.Input.j1.c Lst.Input.j1
  repeat' (first | with_reducible refine Le.letkF (by first | rfl | simp only [Lib.toList_data]) (fun z=>?_) | with_reducible refine Le.chk ?_ | with_reducible refine Le.bif ?_ ?_ | with_reducible refine Le.map ?_ | with_reducible refine Le.loop (fun s=>?_) | with_reducible exact Lst.value.c_le .. | with_reducible exact Lst.Input.j2.c_le .. | with_reducible refine Le.bindF ?_ (fun z=>?_) | with_reducible exact Le.refl _ | (rcases z with ⟨_,_⟩; dsimp only))
noncomputable def Lst.Input.s1.c (was1:List api.Value) (out6_1:List api.Value) (r7_1:ByteArray) (at8_1:Int) (x11_0:Int) (x11_1:ByteArray):Option (((List api.Value) × ByteArray × Int × Int × ByteArray) ⊕ (((List api.Value) × ByteArray × Int) ⊕ ((List api.Value) × Int))) :=
  letkF (decide (x11_0 > (0:Int))) fun t50 =>
  bif t50 then
    letkF ((out6_1.length:Int)) fun t54 =>
    letkF (decide (at8_1 < t54)) fun t55 =>
    bif t55 then
      Lst.Input.j1.c was1 at8_1 out6_1 r7_1 x11_0 x11_1
    else
      some (.inr (.inl (out6_1,r7_1,at8_1)))
  else
    some (.inr (.inl (out6_1,r7_1,at8_1)))
theorem Lst.Input.s1.c_le (was1:List api.Value) (out6_1:List api.Value) (r7_1:ByteArray) (at8_1:Int) (x11_0:Int) (x11_1:ByteArray):Le (Lst.Input.s1.c was1 out6_1 r7_1 at8_1 x11_0 x11_1) (Lst.Input.s1 was1 out6_1 r7_1 at8_1 x11_0 x11_1):=by
  unfold Lst.Input.s1.c Lst.Input.s1
  repeat' (first | with_reducible refine Le.letkF (by first | rfl | simp only [Lib.toList_data]) (fun z=>?_) | with_reducible refine Le.chk ?_ | with_reducible refine Le.bif ?_ ?_ | with_reducible refine Le.map ?_ | with_reducible refine Le.loop (fun s=>?_) | with_reducible exact Lst.Input.j1.c_le .. | with_reducible refine Le.bindF ?_ (fun z=>?_) | with_reducible exact Le.refl _ | (rcases z with ⟨_,_⟩; dsimp only))
noncomputable def Lst.Input.l1.c (was1:List api.Value) (out6_1:List api.Value) (r7_1:ByteArray) (at8_1:Int) (x11_0:Int) (x11_1:ByteArray):Option (((List api.Value) × ByteArray × Int) ⊕ ((List api.Value) × Int)):=iterO (fun v:(List api.Value) × ByteArray × Int × Int × ByteArray=>Lst.Input.s1.c was1 v.1 v.2.1 v.2.2.1 v.2.2.2.1 v.2.2.2.2) 3000 (out6_1,r7_1,at8_1,x11_0,x11_1)
theorem Lst.Input.l1.c_le (was1:List api.Value) (out6_1:List api.Value) (r7_1:ByteArray) (at8_1:Int) (x11_0:Int) (x11_1:ByteArray):Le (Lst.Input.l1.c was1 out6_1 r7_1 at8_1 x11_0 x11_1) (Lst.Input.l1 was1 out6_1 r7_1 at8_1 x11_0 x11_1):=by
  unfold Lst.Input.l1.c Lst.Input.l1
  repeat' (first | with_reducible refine Le.letkF (by first | rfl | simp only [Lib.toList_data]) (fun z=>?_) | with_reducible refine Le.chk ?_ | with_reducible refine Le.bif ?_ ?_ | with_reducible refine Le.map ?_ | with_reducible refine Le.loop (fun s=>?_) | with_reducible exact Lst.Input.s1.c_le .. | with_reducible refine Le.bindF ?_ (fun z=>?_) | with_reducible exact Le.refl _ | (rcases z with ⟨_,_⟩; dsimp only))
noncomputable def Lst.Input.s0.c (was1:List api.Value) (out6:List api.Value) (r7:ByteArray) (at8:Int):Option (((List api.Value) × ByteArray × Int) ⊕ ((List api.Value) × Int)) :=
  letkF ((out6.length:Int)) fun t28 =>
  letkF (decide (at8 < t28)) fun t29 =>
  bif t29 then
    bindF (Lst.reader.ended.c r7) fun (o_0,t32_0,t32_1) =>
    bif t32_1 then
      some (.inr (out6,0))
    else
      bif t32_0 then
        some (.inr ([],6))
      else
        bindF (Lst.reader.next_.c o_0) fun (o_0_1,t42_0,t42_1) =>
        letkF (t42_1 != (0:Int)) fun t46 =>
        bif t46 then
          some (.inr ([],t42_1))
        else
          Lst.Input.l1.c was1 out6 o_0_1 at8 t42_0.times t42_0.text
  else
    some (.inr (out6,0))
theorem Lst.Input.s0.c_le (was1:List api.Value) (out6:List api.Value) (r7:ByteArray) (at8:Int):Le (Lst.Input.s0.c was1 out6 r7 at8) (Lst.Input.s0 was1 out6 r7 at8):=by
  unfold Lst.Input.s0.c Lst.Input.s0
  repeat' (first | with_reducible refine Le.letkF (by first | rfl | simp only [Lib.toList_data]) (fun z=>?_) | with_reducible refine Le.chk ?_ | with_reducible refine Le.bif ?_ ?_ | with_reducible refine Le.map ?_ | with_reducible refine Le.loop (fun s=>?_) | with_reducible exact Lst.reader.ended.c_le .. | with_reducible exact Lst.reader.next_.c_le .. | with_reducible exact Lst.Input.l1.c_le .. | with_reducible refine Le.bindF ?_ (fun z=>?_) | with_reducible exact Le.refl _ | (rcases z with ⟨_,_⟩; dsimp only))
noncomputable def Lst.Input.l0.c (was1:List api.Value) (out6:List api.Value) (r7:ByteArray) (at8:Int):Option ((List api.Value) × Int):=iterO (fun v:(List api.Value) × ByteArray × Int=>Lst.Input.s0.c was1 v.1 v.2.1 v.2.2) 3000 (out6,r7,at8)
theorem Lst.Input.l0.c_le (was1:List api.Value) (out6:List api.Value) (r7:ByteArray) (at8:Int):Le (Lst.Input.l0.c was1 out6 r7 at8) (Lst.Input.l0 was1 out6 r7 at8):=by
  unfold Lst.Input.l0.c Lst.Input.l0
  repeat' (first | with_reducible refine Le.letkF (by first | rfl | simp only [Lib.toList_data]) (fun z=>?_) | with_reducible refine Le.chk ?_ | with_reducible refine Le.bif ?_ ?_ | with_reducible refine Le.map ?_ | with_reducible refine Le.loop (fun s=>?_) | with_reducible exact Lst.Input.s0.c_le .. | with_reducible refine Le.bindF ?_ (fun z=>?_) | with_reducible exact Le.refl _ | (rcases z with ⟨_,_⟩; dsimp only))
noncomputable def Lst.Input.j0.c (text0:ByteArray) (was1:List api.Value):Option ((List api.Value) × Int) :=
  bindF (Slcs.CloneV.c was1) fun t22 =>
  Lst.Input.l0.c was1 t22 text0 0
theorem Lst.Input.j0.c_le (text0:ByteArray) (was1:List api.Value):Le (Lst.Input.j0.c text0 was1) (Lst.Input.j0 text0 was1):=by
  unfold Lst.Input.j0.c Lst.Input.j0
  repeat' (first | with_reducible refine Le.letkF (by first | rfl | simp only [Lib.toList_data]) (fun z=>?_) | with_reducible refine Le.chk ?_ | with_reducible refine Le.bif ?_ ?_ | with_reducible refine Le.map ?_ | with_reducible refine Le.loop (fun s=>?_) | with_reducible exact Lst.Input.l0.c_le .. | with_reducible exact Slcs.CloneV.c_le .. | with_reducible refine Le.bindF ?_ (fun z=>?_) | with_reducible exact Le.refl _ | (rcases z with ⟨_,_⟩; dsimp only))
noncomputable def Lst.Input.c (text0:ByteArray) (was1:List api.Value):Option ((List api.Value) × Int) :=
  bindF (Lst.areValues.c was1) fun t14 =>
  letkF (!t14) fun t15 =>
  bif t15 then
    some ([],2)
  else
    bindF (Lst.isText.c text0) fun t18 =>
    letkF (!t18) fun t19 =>
    bif t19 then
      some ([],2)
    else
      Lst.Input.j0.c text0 was1
theorem Lst.Input.c_le (text0:ByteArray) (was1:List api.Value):Le (Lst.Input.c text0 was1) (Lst.Input text0 was1):=by
  unfold Lst.Input.c Lst.Input
  repeat' (first | with_reducible refine Le.letkF (by first | rfl | simp only [Lib.toList_data]) (fun z=>?_) | with_reducible refine Le.chk ?_ | with_reducible refine Le.bif ?_ ?_ | with_reducible refine Le.map ?_ | with_reducible refine Le.loop (fun s=>?_) | with_reducible exact Lst.areValues.c_le .. | with_reducible exact Lst.isText.c_le .. | with_reducible exact Lst.Input.j0.c_le .. | with_reducible refine Le.bindF ?_ (fun z=>?_) | with_reducible exact Le.refl _ | (rcases z with ⟨_,_⟩; dsimp only))
noncomputable def Law15.Awake.c :Option Bool :=
  bindF (Lst.Input.c ⟨#[49,44,32,44,32,50,42,55,32,47]⟩ ([(⟨1,9⟩:api.Value),(⟨1,9⟩:api.Value),(⟨1,9⟩:api.Value),(⟨1,9⟩:api.Value),(⟨1,9⟩:api.Value)])) fun (t12_0,t12_1) =>
  letkF (t12_1 == (0:Int)) fun t16 =>
  bif t16 then
    letkF ((t12_0.length:Int)) fun t19 =>
    letkF (t19 == (5:Int)) fun t20 =>
    bif t20 then
      chkD (0 ≤ (0:Int)) <|
      bindF (t12_0[(0:Int).toNat]?) fun t24 =>
      letkF (t24.N == (1:Int)) fun t27 =>
      bif t27 then
        chkD (0 ≤ (1:Int)) <|
        bindF (t12_0[(1:Int).toNat]?) fun t31 =>
        letkF (t31.N == (9:Int)) fun t34 =>
        bif t34 then
          chkD (0 ≤ (2:Int)) <|
          bindF (t12_0[(2:Int).toNat]?) fun t38 =>
          letkF (t38.N == (7:Int)) fun t41 =>
          bif t41 then
            chkD (0 ≤ (3:Int)) <|
            bindF (t12_0[(3:Int).toNat]?) fun t45 =>
            letkF (t45.N == (7:Int)) fun t48 =>
            bif t48 then
              chkD (0 ≤ (4:Int)) <|
              bindF (t12_0[(4:Int).toNat]?) fun t52 =>
              letkF (t52.N == (9:Int)) fun t55 =>
              some t55
            else
              some false
          else
            some false
        else
          some false
      else
        some false
    else
      some false
  else
    some false
theorem Law15.Awake.c_le:Le (Law15.Awake.c) (Law15.Awake):=by
  unfold Law15.Awake.c Law15.Awake
  repeat' (first | with_reducible refine Le.letkF (by first | rfl | simp only [Lib.toList_data]) (fun z=>?_) | with_reducible refine Le.chk ?_ | with_reducible refine Le.bif ?_ ?_ | with_reducible refine Le.map ?_ | with_reducible refine Le.loop (fun s=>?_) | with_reducible exact Lst.Input.c_le .. | with_reducible refine Le.bindF ?_ (fun z=>?_) | with_reducible exact Le.refl _ | (rcases z with ⟨_,_⟩; dsimp only))
set_option maxRecDepth 1000000 in
theorem Law15.Awake_eq:Law15.Awake = some true:=Law15.Awake.c_le.of (by kernel_rfl)
end Go.Q
