import Derived.Test.YtmfhkipeapdfmaaGreatDoorDQ6
import Derived.Test.YtmfhkipeapdfmaaGreatDoorFX
namespace Go.Q
open Go
set_option maxRecDepth 10000
set_option maxHeartbeats 2000000
noncomputable instance:Fc float.shape:=⟨fun x k=>float.shape.rec (motive:=fun _=>_) (fun a b=>Fc.fc a fun a=>Fc.fc b fun b=>k ⟨a,b⟩) x,fun x k=>by cases x; simp only [Fc.eq]⟩
noncomputable instance:Fc float.number:=⟨fun x k=>float.number.rec (motive:=fun _=>_) (fun a b c d=>Fc.fc a fun a=>Fc.fc b fun b=>Fc.fc c fun c=>Fc.fc d fun d=>k ⟨a,b,c,d⟩) x,fun x k=>by cases x; simp only [Fc.eq]⟩
noncomputable instance:Fc float.exact:=⟨fun x k=>float.exact.rec (motive:=fun _=>_) (fun a b c d=>Fc.fc a fun a=>Fc.fc b fun b=>Fc.fc c fun c=>Fc.fc d fun d=>k ⟨a,b,c,d⟩) x,fun x k=>by cases x; simp only [Fc.eq]⟩
noncomputable instance:Fc decimal.parsed:=⟨fun x k=>decimal.parsed.rec (motive:=fun _=>_) (fun a b c d=>Fc.fc a fun a=>Fc.fc b fun b=>Fc.fc c fun c=>Fc.fc d fun d=>k ⟨a,b,c,d⟩) x,fun x k=>by cases x; simp only [Fc.eq]⟩
def Strs.TrimLeft.c (s t:ByteArray):Option ByteArray:=chkD (t = ⟨#[48]⟩) (some (B (Lib.trimLeftB (L s) 48)))
theorem Strs.TrimLeft.c_le (s t:ByteArray):Le (Strs.TrimLeft.c s t) (Strs.TrimLeft s t):=Le.chk (Le.refl _)
def Strs.TrimRight.c (s t:ByteArray):Option ByteArray:=chkD (s.size ≤ 9223372036854775807 ∧ t = ⟨#[48]⟩) (some (B (Lib.trimRightB (L s) 48)))
theorem Strs.TrimRight.c_le (s t:ByteArray):Le (Strs.TrimRight.c s t) (Strs.TrimRight s t):=Le.chk (Le.refl _)
def Strs.Repeat.c (s:ByteArray) (c:Int):Option ByteArray:=chkD (0 ≤ c ∧ c ≤ 9223372036854775807 ∧ s.size * c.toNat ≤ 140737488355328) (some (B (Lib.repeatL (L s) c.toNat)))
theorem Strs.Repeat.c_le (s:ByteArray) (c:Int):Le (Strs.Repeat.c s c) (Strs.Repeat s c):=Le.chk (Le.refl _)
def Strs.Contains.c (s t:ByteArray):Option Bool:=chkD (s.size < 4294967281) (some (Lib.contains (L s) (L t)))
theorem Strs.Contains.c_le (s t:ByteArray):Le (Strs.Contains.c s t) (Strs.Contains s t):=Le.chk (Le.refl _)
def Strconv.Atoi.c (s:ByteArray):Option (Int × Unit):=chkD (s.size ≤ 9223372036854775806) (match Lib.atoiAll (L s) with | .ok v=>some (v,()) | _=>none)
theorem Strconv.Atoi.c_le (s:ByteArray):Le (Strconv.Atoi.c s) (Strconv.Atoi s):=Le.chk (Le.refl _)
def dsF:Nat → Nat → BS
  | 0,_=>[]
  | f + 1,n=>if n = 0 then [] else dsF f (n / 10) ++ [dc (n % 10)]
theorem dsF_eq:∀ f n,n < 10 ^ f → dsF f n = ds n
  | 0,n,h=>by
    obtain rfl:n = 0:=by simpa using h
    rw [ds_zero]; rfl
  | f + 1,n,h=>by
    unfold dsF
    by_cases h0:n = 0
    · rw [if_pos h0,h0,ds_zero]
    · rw [if_neg h0,dsF_eq f (n / 10) (by rw [Nat.pow_succ] at h; omega),← ds_pos (by omega)]
def Strconv.Itoa.c (n:Int):Option ByteArray:=chkD (0 < n ∧ n.toNat < 10 ^ 18) (some (B (dsF 18 n.toNat)))
theorem Strconv.Itoa.c_le (n:Int):Le (Strconv.Itoa.c n) (Strconv.Itoa n):=by
  intro r e
  unfold Strconv.Itoa.c chkD at e
  by_cases hc:0 < n ∧ n.toNat < 10 ^ 18
  · rw [decide_eq_true hc] at e
    obtain ⟨m,rfl⟩:∃ m:Nat,n = m:=⟨n.toNat,by omega⟩
    rw [Int.toNat_natCast] at hc e
    have h1:m < 1000000000000000000:=hc.2
    rw [Itoa_eq (by omega),itoa_ds (by omega),← dsF_eq 18 m hc.2]; exact e
  · rw [decide_eq_false hc] at e; cases e
def vlG:List Int → Nat
  | []=>0
  | x :: r=>x.toNat + 1000000000 * vlG r
def cnG:List Int → Bool
  | []=>true
  | [x]=>decide (0 < x) && decide (x < 1000000000)
  | x :: r=>decide (0 ≤ x) && decide (x < 1000000000) && cnG r
theorem vlG_eq:∀ l,cnG l = true → G (vlG l) = l ∧ (l ≠ [] → 0 < vlG l)
  | [],_=>⟨dgB_zero _,fun h=>absurd rfl h⟩
  | x :: r,h=>by
    have hx:0 ≤ x ∧ x < 1000000000 ∧ cnG r = true ∧ (r = [] → 0 < x):=by
      cases r with
      | nil=>simp only [cnG,Bool.and_eq_true,decide_eq_true_eq] at h; exact ⟨by omega,h.2,rfl,fun _=>h.1⟩
      | cons y s=>simp only [cnG,Bool.and_eq_true,decide_eq_true_eq] at h; exact ⟨h.1.1,h.1.2,h.2,fun h0=>by cases h0⟩
    obtain ⟨h1,h2⟩:=vlG_eq r hx.2.2.1
    have hpos:0 < vlG (x :: r):=by
      show 0 < x.toNat + 1000000000 * vlG r
      by_cases hr:r = []
      · have:=hx.2.2.2 hr; omega
      · have:=h2 hr; omega
    refine ⟨?_,fun _=>hpos⟩
    unfold G
    rw [dgB_cons h9 hpos]
    have e1:vlG (x :: r) % 1000000000 = x.toNat:=by show (x.toNat + 1000000000 * vlG r) % 1000000000 = _; omega
    have e2:vlG (x :: r) / 1000000000 = vlG r:=by show (x.toNat + 1000000000 * vlG r) / 1000000000 = _; omega
    rw [e1,e2,show ((x.toNat:Nat):Int) = x by omega]
    exact congrArg _ h1
def Dec.big.digits.c (l:List Int):Option ByteArray:=chkD (cnG l = true ∧ l.length ≤ 100000 ∧ vlG l < 10 ^ 200) (some (B (dsF 200 (vlG l))))
theorem Dec.big.digits.c_le (l:List Int):Le (Dec.big.digits.c l) (Dec.big.digits l):=by
  intro r e
  unfold Dec.big.digits.c chkD at e
  by_cases hc:cnG l = true ∧ l.length ≤ 100000 ∧ vlG l < 10 ^ 200
  · rw [decide_eq_true hc] at e
    obtain ⟨h1,_⟩:=vlG_eq l hc.1
    have hl:lnB 1000000000 (vlG l) ≤ 100000:=by
      have:(G (vlG l)).length = lnB 1000000000 (vlG l):=dgB_len _ _
      rw [h1] at this; omega
    have:=digits_eq hl
    rw [h1] at this
    rw [this,← dsF_eq 200 _ hc.2.2]; exact e
  · rw [decide_eq_false hc] at e; cases e
def Bits.Len64.c (x:Int):Option Int:=chkD (0 ≤ x ∧ x ≤ 18446744073709551615) (some (Lib.bitLen x.toNat))
theorem Bits.Len64.c_le (x:Int):Le (Bits.Len64.c x) (Bits.Len64 x):=Le.chk (Le.refl _)
def Bits.TrailingZeros64.c (x:Int):Option Int:=chkD (0 ≤ x ∧ x ≤ 18446744073709551615) (some (Lib.ctz 64 x.toNat))
theorem Bits.TrailingZeros64.c_le (x:Int):Le (Bits.TrailingZeros64.c x) (Bits.TrailingZeros64 x):=Le.chk (Le.refl _)
noncomputable def Flt.of.c (kind0:Int):Option (float.shape × Bool) :=
  letkF (kind0 == (2:Int)) fun t6 =>
  bif t6 then
    some ((⟨11,5⟩:float.shape),true)
  else
    letkF (kind0 == (4:Int)) fun t9 =>
    bif t9 then
      some ((⟨24,8⟩:float.shape),true)
    else
      letkF (kind0 == (8:Int)) fun t12 =>
      bif t12 then
        some ((⟨53,11⟩:float.shape),true)
      else
        some ((⟨0,0⟩:float.shape),false)
theorem Flt.of.c_le (kind0:Int):Le (Flt.of.c kind0) (Flt.of kind0):=by
  unfold Flt.of.c Flt.of
  repeat' (first | with_reducible refine Le.letkF (by first | rfl | simp only [Lib.toList_data]) (fun z=>?_) | with_reducible refine Le.chk ?_ | with_reducible refine Le.bif ?_ ?_ | with_reducible refine Le.map ?_ | with_reducible refine Le.loop (fun s=>?_) | with_reducible refine Le.bindF ?_ (fun z=>?_) | with_reducible exact Le.refl _ | (rcases z with ⟨_,_⟩; dsimp only))
noncomputable def Flt.shape.top.c (s0:float.shape):Option Int :=
  chkD (0 ≤ s0.w) <|
  letkF (IntKind.u64.wrap ((1:Int) * 2 ^ (min s0.w.toNat (IntKind.u64).bits))) fun t5 =>
  letkF (IntKind.u64.wrap (t5 - (1:Int))) fun t6 =>
  some t6
theorem Flt.shape.top.c_le (s0:float.shape):Le (Flt.shape.top.c s0) (Flt.shape.top s0):=by
  unfold Flt.shape.top.c Flt.shape.top
  repeat' (first | with_reducible refine Le.letkF (by first | rfl | simp only [Lib.toList_data]) (fun z=>?_) | with_reducible refine Le.chk ?_ | with_reducible refine Le.bif ?_ ?_ | with_reducible refine Le.map ?_ | with_reducible refine Le.loop (fun s=>?_) | with_reducible refine Le.bindF ?_ (fun z=>?_) | with_reducible exact Le.refl _ | (rcases z with ⟨_,_⟩; dsimp only))
noncomputable def Flt.shape.bias.c (s0:float.shape):Option Int :=
  letkF (IntKind.i64.wrap (s0.w - (1:Int))) fun t5 =>
  chkD (0 ≤ t5) <|
  letkF (IntKind.i64.wrap ((1:Int) * 2 ^ (min t5.toNat (IntKind.i64).bits))) fun t6 =>
  letkF (IntKind.i64.wrap (t6 - (1:Int))) fun t7 =>
  some t7
theorem Flt.shape.bias.c_le (s0:float.shape):Le (Flt.shape.bias.c s0) (Flt.shape.bias s0):=by
  unfold Flt.shape.bias.c Flt.shape.bias
  repeat' (first | with_reducible refine Le.letkF (by first | rfl | simp only [Lib.toList_data]) (fun z=>?_) | with_reducible refine Le.chk ?_ | with_reducible refine Le.bif ?_ ?_ | with_reducible refine Le.map ?_ | with_reducible refine Le.loop (fun s=>?_) | with_reducible refine Le.bindF ?_ (fun z=>?_) | with_reducible exact Le.refl _ | (rcases z with ⟨_,_⟩; dsimp only))
noncomputable def Flt.shape.least.c (s0:float.shape):Option Int :=
  bindF (Flt.shape.bias.c (⟨s0.p,s0.w⟩:float.shape)) fun t4 =>
  letkF (IntKind.i64.wrap ((2:Int) - t4)) fun t5 =>
  letkF (IntKind.i64.wrap (t5 - s0.p)) fun t8 =>
  some t8
theorem Flt.shape.least.c_le (s0:float.shape):Le (Flt.shape.least.c s0) (Flt.shape.least s0):=by
  unfold Flt.shape.least.c Flt.shape.least
  repeat' (first | with_reducible refine Le.letkF (by first | rfl | simp only [Lib.toList_data]) (fun z=>?_) | with_reducible refine Le.chk ?_ | with_reducible refine Le.bif ?_ ?_ | with_reducible refine Le.map ?_ | with_reducible refine Le.loop (fun s=>?_) | with_reducible exact Flt.shape.bias.c_le .. | with_reducible refine Le.bindF ?_ (fun z=>?_) | with_reducible exact Le.refl _ | (rcases z with ⟨_,_⟩; dsimp only))
noncomputable def Flt.shape.read.j2.c (t41:Int) (t48:Int) (s2_0_1:Int) (s2_1_1:Int) (t4_0_1:Int) (t4_1_1:Int) (t4_2_1:Int) (t4_3_1:Int) (x8_0:Int) (x8_1:Int) (x8_2:Int) (x8_3:Int) (t83:Bool):Option (float.number × Bool) :=
  bif t83 then
    some ((⟨0,x8_1,x8_2,x8_3⟩:float.number),true)
  else
    letkF (t41 == (0:Int)) fun t93 =>
    bif t93 then
      bindF (Flt.shape.least.c (⟨s2_0_1,s2_1_1⟩:float.shape)) fun t96 =>
      some ((⟨1,x8_1,t48,t96⟩:float.number),true)
    else
      letkF (IntKind.i64.wrap (s2_0_1 - (1:Int))) fun t52 =>
      chkD (0 ≤ t52) <|
      letkF (IntKind.u64.wrap ((1:Int) * 2 ^ (min t52.toNat (IntKind.u64).bits))) fun t53 =>
      letkF (IntKind.u64.wrap (BitVec.ofInt (IntKind.u64).bits t48 ||| BitVec.ofInt (IntKind.u64).bits t53).toNat) fun t54 =>
      letkF (IntKind.i64.wrap t41) fun t56 =>
      bindF (Flt.shape.bias.c (⟨s2_0_1,s2_1_1⟩:float.shape)) fun t58 =>
      letkF (IntKind.i64.wrap (t56 - t58)) fun t59 =>
      letkF (IntKind.i64.wrap (t59 - s2_0_1)) fun t62 =>
      letkF (IntKind.i64.wrap (t62 + (1:Int))) fun t63 =>
      some ((⟨1,x8_1,t54,t63⟩:float.number),true)
theorem Flt.shape.read.j2.c_le (t41:Int) (t48:Int) (s2_0_1:Int) (s2_1_1:Int) (t4_0_1:Int) (t4_1_1:Int) (t4_2_1:Int) (t4_3_1:Int) (x8_0:Int) (x8_1:Int) (x8_2:Int) (x8_3:Int) (t83:Bool):Le (Flt.shape.read.j2.c t41 t48 s2_0_1 s2_1_1 t4_0_1 t4_1_1 t4_2_1 t4_3_1 x8_0 x8_1 x8_2 x8_3 t83) (Flt.shape.read.j2 t41 t48 s2_0_1 s2_1_1 t4_0_1 t4_1_1 t4_2_1 t4_3_1 x8_0 x8_1 x8_2 x8_3 t83):=by
  unfold Flt.shape.read.j2.c Flt.shape.read.j2
  repeat' (first | with_reducible refine Le.letkF (by first | rfl | simp only [Lib.toList_data]) (fun z=>?_) | with_reducible refine Le.chk ?_ | with_reducible refine Le.bif ?_ ?_ | with_reducible refine Le.map ?_ | with_reducible refine Le.loop (fun s=>?_) | with_reducible exact Flt.shape.bias.c_le .. | with_reducible exact Flt.shape.least.c_le .. | with_reducible refine Le.bindF ?_ (fun z=>?_) | with_reducible exact Le.refl _ | (rcases z with ⟨_,_⟩; dsimp only))
noncomputable def Flt.shape.read.j1.c (t41:Int) (t48:Int) (s2_0_1:Int) (s2_1_1:Int) (t4_0_1:Int) (t4_1_1:Int) (t4_2_1:Int) (t4_3_1:Int) (x8_0:Int) (x8_1:Int) (x8_2:Int) (x8_3:Int) (t67:Bool):Option (float.number × Bool) :=
  bif t67 then
    some ((⟨2,x8_1,x8_2,x8_3⟩:float.number),true)
  else
    bindF (Flt.shape.top.c (⟨s2_0_1,s2_1_1⟩:float.shape)) fun t80 =>
    letkF (t41 == t80) fun t81 =>
    bif t81 then
      some ((⟨3,x8_1,x8_2,x8_3⟩:float.number),true)
    else
      letkF (t41 == (0:Int)) fun t85 =>
      bif t85 then
        letkF (t48 == (0:Int)) fun t88 =>
        Flt.shape.read.j2.c t41 t48 s2_0_1 s2_1_1 t4_0_1 t4_1_1 t4_2_1 t4_3_1 x8_0 x8_1 x8_2 x8_3 t88
      else
        Flt.shape.read.j2.c t41 t48 s2_0_1 s2_1_1 t4_0_1 t4_1_1 t4_2_1 t4_3_1 x8_0 x8_1 x8_2 x8_3 false
theorem Flt.shape.read.j1.c_le (t41:Int) (t48:Int) (s2_0_1:Int) (s2_1_1:Int) (t4_0_1:Int) (t4_1_1:Int) (t4_2_1:Int) (t4_3_1:Int) (x8_0:Int) (x8_1:Int) (x8_2:Int) (x8_3:Int) (t67:Bool):Le (Flt.shape.read.j1.c t41 t48 s2_0_1 s2_1_1 t4_0_1 t4_1_1 t4_2_1 t4_3_1 x8_0 x8_1 x8_2 x8_3 t67) (Flt.shape.read.j1 t41 t48 s2_0_1 s2_1_1 t4_0_1 t4_1_1 t4_2_1 t4_3_1 x8_0 x8_1 x8_2 x8_3 t67):=by
  unfold Flt.shape.read.j1.c Flt.shape.read.j1
  repeat' (first | with_reducible refine Le.letkF (by first | rfl | simp only [Lib.toList_data]) (fun z=>?_) | with_reducible refine Le.chk ?_ | with_reducible refine Le.bif ?_ ?_ | with_reducible refine Le.map ?_ | with_reducible refine Le.loop (fun s=>?_) | with_reducible exact Flt.shape.top.c_le .. | with_reducible exact Flt.shape.read.j2.c_le .. | with_reducible refine Le.bindF ?_ (fun z=>?_) | with_reducible exact Le.refl _ | (rcases z with ⟨_,_⟩; dsimp only))
noncomputable def Flt.shape.read.j0.c (t12:Int) (t17:Int) (s2_0:Int) (s2_1:Int) (t4_0:Int) (t4_1:Int) (t4_2:Int) (t4_3:Int):Option (float.number × Bool) :=
  letkF (IntKind.i64.wrap (t17 - (1:Int))) fun t29 =>
  chkD (0 ≤ t29) <|
  letkF ((IntKind.u64,t12.fdiv (2 ^ (min t29.toNat (IntKind.u64).bits))).2) fun t30 =>
  letkF (IntKind.u64.wrap (BitVec.ofInt (IntKind.u64).bits t30 &&& BitVec.ofInt (IntKind.u64).bits (1:Int)).toNat) fun t31 =>
  letkF (IntKind.i64.wrap t31) fun t32 =>
  letkF (IntKind.i64.wrap (s2_0 - (1:Int))) fun t37 =>
  chkD (0 ≤ t37) <|
  letkF ((IntKind.u64,t12.fdiv (2 ^ (min t37.toNat (IntKind.u64).bits))).2) fun t38 =>
  bindF (Flt.shape.top.c (⟨s2_0,s2_1⟩:float.shape)) fun t40 =>
  letkF (IntKind.u64.wrap (BitVec.ofInt (IntKind.u64).bits t38 &&& BitVec.ofInt (IntKind.u64).bits t40).toNat) fun t41 =>
  letkF (IntKind.i64.wrap (s2_0 - (1:Int))) fun t45 =>
  chkD (0 ≤ t45) <|
  letkF (IntKind.u64.wrap ((1:Int) * 2 ^ (min t45.toNat (IntKind.u64).bits))) fun t46 =>
  letkF (IntKind.u64.wrap (t46 - (1:Int))) fun t47 =>
  letkF (IntKind.u64.wrap (BitVec.ofInt (IntKind.u64).bits t12 &&& BitVec.ofInt (IntKind.u64).bits t47).toNat) fun t48 =>
  bindF (Flt.shape.top.c (⟨s2_0,s2_1⟩:float.shape)) fun t70 =>
  letkF (t41 == t70) fun t71 =>
  bif t71 then
    letkF (t48 == (0:Int)) fun t74 =>
    Flt.shape.read.j1.c t41 t48 s2_0 s2_1 t4_0 t4_1 t4_2 t4_3 0 t32 0 0 t74
  else
    Flt.shape.read.j1.c t41 t48 s2_0 s2_1 t4_0 t4_1 t4_2 t4_3 0 t32 0 0 false
theorem Flt.shape.read.j0.c_le (t12:Int) (t17:Int) (s2_0:Int) (s2_1:Int) (t4_0:Int) (t4_1:Int) (t4_2:Int) (t4_3:Int):Le (Flt.shape.read.j0.c t12 t17 s2_0 s2_1 t4_0 t4_1 t4_2 t4_3) (Flt.shape.read.j0 t12 t17 s2_0 s2_1 t4_0 t4_1 t4_2 t4_3):=by
  unfold Flt.shape.read.j0.c Flt.shape.read.j0
  repeat' (first | with_reducible refine Le.letkF (by first | rfl | simp only [Lib.toList_data]) (fun z=>?_) | with_reducible refine Le.chk ?_ | with_reducible refine Le.bif ?_ ?_ | with_reducible refine Le.map ?_ | with_reducible refine Le.loop (fun s=>?_) | with_reducible exact Flt.shape.top.c_le .. | with_reducible exact Flt.shape.read.j1.c_le .. | with_reducible refine Le.bindF ?_ (fun z=>?_) | with_reducible exact Le.refl _ | (rcases z with ⟨_,_⟩; dsimp only))
noncomputable def Flt.shape.read.j3.c (s0:float.shape) (t12:Int) (t17:Int) (t25:Bool):Option (float.number × Bool) :=
  bif t25 then
    some ((⟨0,0,0,0⟩:float.number),false)
  else
    Flt.shape.read.j0.c t12 t17 s0.p s0.w 0 0 0 0
theorem Flt.shape.read.j3.c_le (s0:float.shape) (t12:Int) (t17:Int) (t25:Bool):Le (Flt.shape.read.j3.c s0 t12 t17 t25) (Flt.shape.read.j3 s0 t12 t17 t25):=by
  unfold Flt.shape.read.j3.c Flt.shape.read.j3
  repeat' (first | with_reducible refine Le.letkF (by first | rfl | simp only [Lib.toList_data]) (fun z=>?_) | with_reducible refine Le.chk ?_ | with_reducible refine Le.bif ?_ ?_ | with_reducible refine Le.map ?_ | with_reducible refine Le.loop (fun s=>?_) | with_reducible exact Flt.shape.read.j0.c_le .. | with_reducible refine Le.bindF ?_ (fun z=>?_) | with_reducible exact Le.refl _ | (rcases z with ⟨_,_⟩; dsimp only))
noncomputable def Flt.shape.read.c (s0:float.shape) (a1:Int):Option (float.number × Bool) :=
  letkF (IntKind.u64.wrap a1) fun t12 =>
  letkF (IntKind.i64.wrap (s0.p + s0.w)) fun t17 =>
  letkF (decide (t17 < (64:Int))) fun t19 =>
  bif t19 then
    chkD (0 ≤ t17) <|
    letkF ((IntKind.u64,t12.fdiv (2 ^ (min t17.toNat (IntKind.u64).bits))).2) fun t23 =>
    letkF (t23 != (0:Int)) fun t24 =>
    Flt.shape.read.j3.c s0 t12 t17 t24
  else
    Flt.shape.read.j3.c s0 t12 t17 false
theorem Flt.shape.read.c_le (s0:float.shape) (a1:Int):Le (Flt.shape.read.c s0 a1) (Flt.shape.read s0 a1):=by
  unfold Flt.shape.read.c Flt.shape.read
  repeat' (first | with_reducible refine Le.letkF (by first | rfl | simp only [Lib.toList_data]) (fun z=>?_) | with_reducible refine Le.chk ?_ | with_reducible refine Le.bif ?_ ?_ | with_reducible refine Le.map ?_ | with_reducible refine Le.loop (fun s=>?_) | with_reducible exact Flt.shape.read.j3.c_le .. | with_reducible refine Le.bindF ?_ (fun z=>?_) | with_reducible exact Le.refl _ | (rcases z with ⟨_,_⟩; dsimp only))
noncomputable def Flt.Valid.c (kind0:Int) (a1:Int):Option Bool :=
  bindF (Flt.of.c kind0) fun (t9_0,t9_1) =>
  letkF (!t9_1) fun t13 =>
  bif t13 then
    some false
  else
    bindF (Flt.shape.read.c (⟨t9_0.p,t9_0.w⟩:float.shape) a1) fun (t17_0,t17_1) =>
    some t17_1
theorem Flt.Valid.c_le (kind0:Int) (a1:Int):Le (Flt.Valid.c kind0 a1) (Flt.Valid kind0 a1):=by
  unfold Flt.Valid.c Flt.Valid
  repeat' (first | with_reducible refine Le.letkF (by first | rfl | simp only [Lib.toList_data]) (fun z=>?_) | with_reducible refine Le.chk ?_ | with_reducible refine Le.bif ?_ ?_ | with_reducible refine Le.map ?_ | with_reducible refine Le.loop (fun s=>?_) | with_reducible exact Flt.of.c_le .. | with_reducible exact Flt.shape.read.c_le .. | with_reducible refine Le.bindF ?_ (fun z=>?_) | with_reducible exact Le.refl _ | (rcases z with ⟨_,_⟩; dsimp only))
noncomputable def Dec.isKind.c (kind0:Int) (mode1:Int):Option Bool :=
  bindF (Flt.Valid.c kind0 0) fun t6 =>
  bif t6 then
    letkF (decide (mode1 ≥ (0:Int))) fun t9 =>
    bif t9 then
      letkF (decide (mode1 ≤ (3:Int))) fun t13 =>
      some t13
    else
      some false
  else
    some false
theorem Dec.isKind.c_le (kind0:Int) (mode1:Int):Le (Dec.isKind.c kind0 mode1) (Dec.isKind kind0 mode1):=by
  unfold Dec.isKind.c Dec.isKind
  repeat' (first | with_reducible refine Le.letkF (by first | rfl | simp only [Lib.toList_data]) (fun z=>?_) | with_reducible refine Le.chk ?_ | with_reducible refine Le.bif ?_ ?_ | with_reducible refine Le.map ?_ | with_reducible refine Le.loop (fun s=>?_) | with_reducible exact Flt.Valid.c_le .. | with_reducible refine Le.bindF ?_ (fun z=>?_) | with_reducible exact Le.refl _ | (rcases z with ⟨_,_⟩; dsimp only))
noncomputable def Dec.digitsOf.s0.c (s0:ByteArray) (n3:Int):Option (Int ⊕ ByteArray) :=
  letkF ((s0.size:Int)) fun t6 =>
  letkF (decide (n3 < t6)) fun t7 =>
  bif t7 then
    chkD (0 ≤ n3 ∧ n3 < (s0.size:Int)) <|
    letkF (bt s0 n3) fun t11 =>
    letkF (decide (t11 ≥ (48:Int))) fun t12 =>
    bif t12 then
      chkD (0 ≤ n3 ∧ n3 < (s0.size:Int)) <|
      letkF (bt s0 n3) fun t17 =>
      letkF (decide (t17 ≤ (57:Int))) fun t18 =>
      bif t18 then
        letkF (IntKind.i64.wrap (n3 + (1:Int))) fun t21 =>
        some (.inl t21)
      else
        ((
        chkD (0 ≤ n3 ∧ n3 ≤ (s0.size:Int)) <|
        letkF (s0.extract 0 n3.toNat) fun t24_2 =>
        some t24_2)).map .inr
    else
      ((
      chkD (0 ≤ n3 ∧ n3 ≤ (s0.size:Int)) <|
      letkF (s0.extract 0 n3.toNat) fun t24_1 =>
      some t24_1)).map .inr
  else
    ((
    chkD (0 ≤ n3 ∧ n3 ≤ (s0.size:Int)) <|
    letkF (s0.extract 0 n3.toNat) fun t24 =>
    some t24)).map .inr
theorem Dec.digitsOf.s0.c_le (s0:ByteArray) (n3:Int):Le (Dec.digitsOf.s0.c s0 n3) (Dec.digitsOf.s0 s0 n3):=by
  unfold Dec.digitsOf.s0.c Dec.digitsOf.s0
  repeat' (first | with_reducible refine Le.letkF (by first | rfl | simp only [Lib.toList_data]) (fun z=>?_) | with_reducible refine Le.chk ?_ | with_reducible refine Le.bif ?_ ?_ | with_reducible refine Le.map ?_ | with_reducible refine Le.loop (fun s=>?_) | with_reducible refine Le.bindF ?_ (fun z=>?_) | with_reducible exact Le.refl _ | (rcases z with ⟨_,_⟩; dsimp only))
noncomputable def Dec.digitsOf.l0.c (s0:ByteArray) (n3:Int):Option ByteArray:=iterO (fun v:Int=>Dec.digitsOf.s0.c s0 v) 3000 n3
theorem Dec.digitsOf.l0.c_le (s0:ByteArray) (n3:Int):Le (Dec.digitsOf.l0.c s0 n3) (Dec.digitsOf.l0 s0 n3):=by
  unfold Dec.digitsOf.l0.c Dec.digitsOf.l0
  repeat' (first | with_reducible refine Le.letkF (by first | rfl | simp only [Lib.toList_data]) (fun z=>?_) | with_reducible refine Le.chk ?_ | with_reducible refine Le.bif ?_ ?_ | with_reducible refine Le.map ?_ | with_reducible refine Le.loop (fun s=>?_) | with_reducible exact Dec.digitsOf.s0.c_le .. | with_reducible refine Le.bindF ?_ (fun z=>?_) | with_reducible exact Le.refl _ | (rcases z with ⟨_,_⟩; dsimp only))
noncomputable def Dec.digitsOf.c (s0:ByteArray):Option ByteArray :=
  Dec.digitsOf.l0.c s0 0
theorem Dec.digitsOf.c_le (s0:ByteArray):Le (Dec.digitsOf.c s0) (Dec.digitsOf s0):=by
  unfold Dec.digitsOf.c Dec.digitsOf
  repeat' (first | with_reducible refine Le.letkF (by first | rfl | simp only [Lib.toList_data]) (fun z=>?_) | with_reducible refine Le.chk ?_ | with_reducible refine Le.bif ?_ ?_ | with_reducible refine Le.map ?_ | with_reducible refine Le.loop (fun s=>?_) | with_reducible exact Dec.digitsOf.l0.c_le .. | with_reducible refine Le.bindF ?_ (fun z=>?_) | with_reducible exact Le.refl _ | (rcases z with ⟨_,_⟩; dsimp only))
noncomputable def Slite.HasPrefix.c (s0:ByteArray) (prefix1:ByteArray):Option Bool :=
  letkF ((s0.size:Int)) fun t6 =>
  letkF ((prefix1.size:Int)) fun t8 =>
  letkF (decide (t6 ≥ t8)) fun t9 =>
  bif t9 then
    letkF ((prefix1.size:Int)) fun t13 =>
    chkD (0 ≤ t13 ∧ t13 ≤ (s0.size:Int)) <|
    letkF (s0.extract 0 t13.toNat) fun t14 =>
    letkF (t14.data.toList == prefix1.data.toList) fun t16 =>
    some t16
  else
    some false
theorem Slite.HasPrefix.c_le (s0:ByteArray) (prefix1:ByteArray):Le (Slite.HasPrefix.c s0 prefix1) (Slite.HasPrefix s0 prefix1):=by
  unfold Slite.HasPrefix.c Slite.HasPrefix
  repeat' (first | with_reducible refine Le.letkF (by first | rfl | simp only [Lib.toList_data]) (fun z=>?_) | with_reducible refine Le.chk ?_ | with_reducible refine Le.bif ?_ ?_ | with_reducible refine Le.map ?_ | with_reducible refine Le.loop (fun s=>?_) | with_reducible refine Le.bindF ?_ (fun z=>?_) | with_reducible exact Le.refl _ | (rcases z with ⟨_,_⟩; dsimp only))
noncomputable def Strs.HasPrefix.c (s0:ByteArray) (prefix1:ByteArray):Option Bool :=
  bindF (Slite.HasPrefix.c s0 prefix1) fun t7 =>
  some t7
theorem Strs.HasPrefix.c_le (s0:ByteArray) (prefix1:ByteArray):Le (Strs.HasPrefix.c s0 prefix1) (Strs.HasPrefix s0 prefix1):=by
  unfold Strs.HasPrefix.c Strs.HasPrefix
  repeat' (first | with_reducible refine Le.letkF (by first | rfl | simp only [Lib.toList_data]) (fun z=>?_) | with_reducible refine Le.chk ?_ | with_reducible refine Le.bif ?_ ?_ | with_reducible refine Le.map ?_ | with_reducible refine Le.loop (fun s=>?_) | with_reducible exact Slite.HasPrefix.c_le .. | with_reducible refine Le.bindF ?_ (fun z=>?_) | with_reducible exact Le.refl _ | (rcases z with ⟨_,_⟩; dsimp only))
noncomputable def Dec.parse.j6.c (p2_0_5:Int) (p2_1_5:ByteArray) (p2_2_5:ByteArray) (p2_3_5:Int) (n7:Int):Option (decimal.parsed × Bool) :=
  letkF (IntKind.i64.wrap (p2_3_5 + n7)) fun t113 =>
  some ((⟨p2_0_5,p2_1_5,p2_2_5,t113⟩:decimal.parsed),true)
theorem Dec.parse.j6.c_le (p2_0_5:Int) (p2_1_5:ByteArray) (p2_2_5:ByteArray) (p2_3_5:Int) (n7:Int):Le (Dec.parse.j6.c p2_0_5 p2_1_5 p2_2_5 p2_3_5 n7) (Dec.parse.j6 p2_0_5 p2_1_5 p2_2_5 p2_3_5 n7):=by
  unfold Dec.parse.j6.c Dec.parse.j6
  repeat' (first | with_reducible refine Le.letkF (by first | rfl | simp only [Lib.toList_data]) (fun z=>?_) | with_reducible refine Le.chk ?_ | with_reducible refine Le.bif ?_ ?_ | with_reducible refine Le.map ?_ | with_reducible refine Le.loop (fun s=>?_) | with_reducible refine Le.bindF ?_ (fun z=>?_) | with_reducible exact Le.refl _ | (rcases z with ⟨_,_⟩; dsimp only))
noncomputable def Dec.parse.j5.c (s0_3:ByteArray) (p2_0_5:Int) (p2_1_5:ByteArray) (p2_2_5:ByteArray) (p2_3_5:Int) (minus6_1:Bool):Option (decimal.parsed × Bool) :=
  bindF (Strconv.Atoi.c s0_3) fun (t104_0,t104_1) =>
  bif minus6_1 then
    letkF (IntKind.i64.wrap (0 - t104_0)) fun t109 =>
    Dec.parse.j6.c p2_0_5 p2_1_5 p2_2_5 p2_3_5 t109
  else
    Dec.parse.j6.c p2_0_5 p2_1_5 p2_2_5 p2_3_5 t104_0
theorem Dec.parse.j5.c_le (s0_3:ByteArray) (p2_0_5:Int) (p2_1_5:ByteArray) (p2_2_5:ByteArray) (p2_3_5:Int) (minus6_1:Bool):Le (Dec.parse.j5.c s0_3 p2_0_5 p2_1_5 p2_2_5 p2_3_5 minus6_1) (Dec.parse.j5 s0_3 p2_0_5 p2_1_5 p2_2_5 p2_3_5 minus6_1):=by
  unfold Dec.parse.j5.c Dec.parse.j5
  repeat' (first | with_reducible refine Le.letkF (by first | rfl | simp only [Lib.toList_data]) (fun z=>?_) | with_reducible refine Le.chk ?_ | with_reducible refine Le.bif ?_ ?_ | with_reducible refine Le.map ?_ | with_reducible refine Le.loop (fun s=>?_) | with_reducible exact Dec.parse.j6.c_le .. | with_reducible exact Strconv.Atoi.c_le .. | with_reducible refine Le.bindF ?_ (fun z=>?_) | with_reducible exact Le.refl _ | (rcases z with ⟨_,_⟩; dsimp only))
noncomputable def Dec.parse.j7.c (s0_3:ByteArray) (p2_0_6:Int) (p2_1_6:ByteArray) (p2_2_6:ByteArray) (p2_3_6:Int) (minus6_2:Bool) (t100:Bool):Option (decimal.parsed × Bool) :=
  bif t100 then
    some ((⟨p2_0_6,p2_1_6,p2_2_6,p2_3_6⟩:decimal.parsed),false)
  else
    Dec.parse.j5.c s0_3 p2_0_6 p2_1_6 p2_2_6 p2_3_6 minus6_2
theorem Dec.parse.j7.c_le (s0_3:ByteArray) (p2_0_6:Int) (p2_1_6:ByteArray) (p2_2_6:ByteArray) (p2_3_6:Int) (minus6_2:Bool) (t100:Bool):Le (Dec.parse.j7.c s0_3 p2_0_6 p2_1_6 p2_2_6 p2_3_6 minus6_2 t100) (Dec.parse.j7 s0_3 p2_0_6 p2_1_6 p2_2_6 p2_3_6 minus6_2 t100):=by
  unfold Dec.parse.j7.c Dec.parse.j7
  repeat' (first | with_reducible refine Le.letkF (by first | rfl | simp only [Lib.toList_data]) (fun z=>?_) | with_reducible refine Le.chk ?_ | with_reducible refine Le.bif ?_ ?_ | with_reducible refine Le.map ?_ | with_reducible refine Le.loop (fun s=>?_) | with_reducible exact Dec.parse.j5.c_le .. | with_reducible refine Le.bindF ?_ (fun z=>?_) | with_reducible exact Le.refl _ | (rcases z with ⟨_,_⟩; dsimp only))
noncomputable def Dec.parse.j4.c (s0_3:ByteArray) (p2_0_4:Int) (p2_1_4:ByteArray) (p2_2_4:ByteArray) (p2_3_4:Int) (minus6:Bool):Option (decimal.parsed × Bool) :=
  letkF (s0_3.data.toList == (⟨#[]⟩:ByteArray).data.toList) fun t89 =>
  bif t89 then
    Dec.parse.j7.c s0_3 p2_0_4 p2_1_4 p2_2_4 p2_3_4 minus6 true
  else
    letkF ((s0_3.size:Int)) fun t92 =>
    letkF (decide (t92 > (4:Int))) fun t93 =>
    bif t93 then
      Dec.parse.j7.c s0_3 p2_0_4 p2_1_4 p2_2_4 p2_3_4 minus6 true
    else
      bindF (Dec.digitsOf.c s0_3) fun t97 =>
      letkF (!(t97.data.toList == s0_3.data.toList)) fun t99 =>
      Dec.parse.j7.c s0_3 p2_0_4 p2_1_4 p2_2_4 p2_3_4 minus6 t99
theorem Dec.parse.j4.c_le (s0_3:ByteArray) (p2_0_4:Int) (p2_1_4:ByteArray) (p2_2_4:ByteArray) (p2_3_4:Int) (minus6:Bool):Le (Dec.parse.j4.c s0_3 p2_0_4 p2_1_4 p2_2_4 p2_3_4 minus6) (Dec.parse.j4 s0_3 p2_0_4 p2_1_4 p2_2_4 p2_3_4 minus6):=by
  unfold Dec.parse.j4.c Dec.parse.j4
  repeat' (first | with_reducible refine Le.letkF (by first | rfl | simp only [Lib.toList_data]) (fun z=>?_) | with_reducible refine Le.chk ?_ | with_reducible refine Le.bif ?_ ?_ | with_reducible refine Le.map ?_ | with_reducible refine Le.loop (fun s=>?_) | with_reducible exact Dec.digitsOf.c_le .. | with_reducible exact Dec.parse.j7.c_le .. | with_reducible refine Le.bindF ?_ (fun z=>?_) | with_reducible exact Le.refl _ | (rcases z with ⟨_,_⟩; dsimp only))
noncomputable def Dec.parse.j3.c (s0_2:ByteArray) (p2_0_3:Int) (p2_1_3:ByteArray) (p2_2_3:ByteArray) (p2_3_3:Int):Option (decimal.parsed × Bool) :=
  letkF (s0_2.data.toList == (⟨#[]⟩:ByteArray).data.toList) fun t70 =>
  bif t70 then
    some ((⟨p2_0_3,p2_1_3,p2_2_3,p2_3_3⟩:decimal.parsed),true)
  else
    chkD (0 ≤ (1:Int) ∧ (1:Int) ≤ (s0_2.size:Int)) <|
    letkF (s0_2.extract 0 ((1:Int).toNat)) fun t73 =>
    bindF (Strs.Contains.c ⟨#[101,69,100,68]⟩ t73) fun t74 =>
    letkF (!t74) fun t75 =>
    bif t75 then
      some ((⟨p2_0_3,p2_1_3,p2_2_3,p2_3_3⟩:decimal.parsed),false)
    else
      chkD (0 ≤ (1:Int) ∧ (1:Int) ≤ (s0_2.size:Int)) <|
      letkF (s0_2.extract (1:Int).toNat s0_2.size) fun t78 =>
      bindF (Strs.HasPrefix.c t78 ⟨#[45]⟩) fun t80 =>
      bif t80 then
        chkD (0 ≤ (1:Int) ∧ (1:Int) ≤ (t78.size:Int)) <|
        letkF (t78.extract (1:Int).toNat t78.size) fun t87_1 =>
        Dec.parse.j4.c t87_1 p2_0_3 p2_1_3 p2_2_3 p2_3_3 true
      else
        bindF (Strs.HasPrefix.c t78 ⟨#[43]⟩) fun t84 =>
        bif t84 then
          chkD (0 ≤ (1:Int) ∧ (1:Int) ≤ (t78.size:Int)) <|
          letkF (t78.extract (1:Int).toNat t78.size) fun t87 =>
          Dec.parse.j4.c t87 p2_0_3 p2_1_3 p2_2_3 p2_3_3 false
        else
          Dec.parse.j4.c t78 p2_0_3 p2_1_3 p2_2_3 p2_3_3 false
theorem Dec.parse.j3.c_le (s0_2:ByteArray) (p2_0_3:Int) (p2_1_3:ByteArray) (p2_2_3:ByteArray) (p2_3_3:Int):Le (Dec.parse.j3.c s0_2 p2_0_3 p2_1_3 p2_2_3 p2_3_3) (Dec.parse.j3 s0_2 p2_0_3 p2_1_3 p2_2_3 p2_3_3):=by
  unfold Dec.parse.j3.c Dec.parse.j3
  repeat' (first | with_reducible refine Le.letkF (by first | rfl | simp only [Lib.toList_data]) (fun z=>?_) | with_reducible refine Le.chk ?_ | with_reducible refine Le.bif ?_ ?_ | with_reducible refine Le.map ?_ | with_reducible refine Le.loop (fun s=>?_) | with_reducible exact Strs.HasPrefix.c_le .. | with_reducible exact Dec.parse.j4.c_le .. | with_reducible exact Strs.Contains.c_le .. | with_reducible refine Le.bindF ?_ (fun z=>?_) | with_reducible exact Le.refl _ | (rcases z with ⟨_,_⟩; dsimp only))
noncomputable def Dec.parse.j8.c (s0_2:ByteArray) (p2_0_7:Int) (p2_1_7:ByteArray) (p2_2_7:ByteArray) (p2_3_7:Int) (t67:Bool):Option (decimal.parsed × Bool) :=
  bif t67 then
    some ((⟨p2_0_7,p2_1_7,p2_2_7,p2_3_7⟩:decimal.parsed),false)
  else
    Dec.parse.j3.c s0_2 p2_0_7 p2_1_7 p2_2_7 p2_3_7
theorem Dec.parse.j8.c_le (s0_2:ByteArray) (p2_0_7:Int) (p2_1_7:ByteArray) (p2_2_7:ByteArray) (p2_3_7:Int) (t67:Bool):Le (Dec.parse.j8.c s0_2 p2_0_7 p2_1_7 p2_2_7 p2_3_7 t67) (Dec.parse.j8 s0_2 p2_0_7 p2_1_7 p2_2_7 p2_3_7 t67):=by
  unfold Dec.parse.j8.c Dec.parse.j8
  repeat' (first | with_reducible refine Le.letkF (by first | rfl | simp only [Lib.toList_data]) (fun z=>?_) | with_reducible refine Le.chk ?_ | with_reducible refine Le.bif ?_ ?_ | with_reducible refine Le.map ?_ | with_reducible refine Le.loop (fun s=>?_) | with_reducible exact Dec.parse.j3.c_le .. | with_reducible refine Le.bindF ?_ (fun z=>?_) | with_reducible exact Le.refl _ | (rcases z with ⟨_,_⟩; dsimp only))
noncomputable def Dec.parse.j2.c (t37:ByteArray) (s0_2:ByteArray) (p2_0_2:Int) (p2_1_2:ByteArray) (p2_2_2:ByteArray) (p2_3_2:Int) (behind5:ByteArray):Option (decimal.parsed × Bool) :=
  chkD (((t37.size + behind5.size:Nat):Int) ≤ 9223372036854775807) <|
  letkF (t37 ++ behind5) fun t54 =>
  letkF ((t37.size:Int)) fun t56 =>
  letkF (t54.data.toList == (⟨#[]⟩:ByteArray).data.toList) fun t61 =>
  bif t61 then
    Dec.parse.j8.c s0_2 p2_0_2 p2_1_2 t54 t56 true
  else
    letkF ((t54.size:Int)) fun t65 =>
    letkF (decide (t65 > (60:Int))) fun t66 =>
    Dec.parse.j8.c s0_2 p2_0_2 p2_1_2 t54 t56 t66
theorem Dec.parse.j2.c_le (t37:ByteArray) (s0_2:ByteArray) (p2_0_2:Int) (p2_1_2:ByteArray) (p2_2_2:ByteArray) (p2_3_2:Int) (behind5:ByteArray):Le (Dec.parse.j2.c t37 s0_2 p2_0_2 p2_1_2 p2_2_2 p2_3_2 behind5) (Dec.parse.j2 t37 s0_2 p2_0_2 p2_1_2 p2_2_2 p2_3_2 behind5):=by
  unfold Dec.parse.j2.c Dec.parse.j2
  repeat' (first | with_reducible refine Le.letkF (by first | rfl | simp only [Lib.toList_data]) (fun z=>?_) | with_reducible refine Le.chk ?_ | with_reducible refine Le.bif ?_ ?_ | with_reducible refine Le.map ?_ | with_reducible refine Le.loop (fun s=>?_) | with_reducible exact Dec.parse.j8.c_le .. | with_reducible refine Le.bindF ?_ (fun z=>?_) | with_reducible exact Le.refl _ | (rcases z with ⟨_,_⟩; dsimp only))
noncomputable def Dec.parse.j1.c (s0_1:ByteArray) (p2_0_1:Int) (p2_1_1:ByteArray) (p2_2_1:ByteArray) (p2_3_1:Int):Option (decimal.parsed × Bool) :=
  bindF (Dec.digitsOf.c s0_1) fun t37 =>
  letkF ((t37.size:Int)) fun t40 =>
  chkD (0 ≤ t40 ∧ t40 ≤ (s0_1.size:Int)) <|
  letkF (s0_1.extract t40.toNat s0_1.size) fun t41 =>
  bindF (Strs.HasPrefix.c t41 ⟨#[46]⟩) fun t43 =>
  bif t43 then
    chkD (0 ≤ (1:Int) ∧ (1:Int) ≤ (t41.size:Int)) <|
    letkF (t41.extract (1:Int).toNat t41.size) fun t45 =>
    bindF (Dec.digitsOf.c t45) fun t46 =>
    letkF ((t46.size:Int)) fun t49 =>
    letkF (IntKind.i64.wrap ((1:Int) + t49)) fun t50 =>
    chkD (0 ≤ t50 ∧ t50 ≤ (t41.size:Int)) <|
    letkF (t41.extract t50.toNat t41.size) fun t51 =>
    Dec.parse.j2.c t37 t51 p2_0_1 p2_1_1 p2_2_1 p2_3_1 t46
  else
    Dec.parse.j2.c t37 t41 p2_0_1 p2_1_1 p2_2_1 p2_3_1 (⟨#[]⟩)
theorem Dec.parse.j1.c_le (s0_1:ByteArray) (p2_0_1:Int) (p2_1_1:ByteArray) (p2_2_1:ByteArray) (p2_3_1:Int):Le (Dec.parse.j1.c s0_1 p2_0_1 p2_1_1 p2_2_1 p2_3_1) (Dec.parse.j1 s0_1 p2_0_1 p2_1_1 p2_2_1 p2_3_1):=by
  unfold Dec.parse.j1.c Dec.parse.j1
  repeat' (first | with_reducible refine Le.letkF (by first | rfl | simp only [Lib.toList_data]) (fun z=>?_) | with_reducible refine Le.chk ?_ | with_reducible refine Le.bif ?_ ?_ | with_reducible refine Le.map ?_ | with_reducible refine Le.loop (fun s=>?_) | with_reducible exact Dec.digitsOf.c_le .. | with_reducible exact Strs.HasPrefix.c_le .. | with_reducible exact Dec.parse.j2.c_le .. | with_reducible refine Le.bindF ?_ (fun z=>?_) | with_reducible exact Le.refl _ | (rcases z with ⟨_,_⟩; dsimp only))
noncomputable def Dec.parse.j9.c (s0_1:ByteArray) (p2_0:Int) (p2_1:ByteArray) (p2_2:ByteArray) (p2_3:Int) (t32:Bool):Option (decimal.parsed × Bool) :=
  bif t32 then
    some ((⟨p2_0,s0_1,p2_2,p2_3⟩:decimal.parsed),true)
  else
    Dec.parse.j1.c s0_1 p2_0 p2_1 p2_2 p2_3
theorem Dec.parse.j9.c_le (s0_1:ByteArray) (p2_0:Int) (p2_1:ByteArray) (p2_2:ByteArray) (p2_3:Int) (t32:Bool):Le (Dec.parse.j9.c s0_1 p2_0 p2_1 p2_2 p2_3 t32) (Dec.parse.j9 s0_1 p2_0 p2_1 p2_2 p2_3 t32):=by
  unfold Dec.parse.j9.c Dec.parse.j9
  repeat' (first | with_reducible refine Le.letkF (by first | rfl | simp only [Lib.toList_data]) (fun z=>?_) | with_reducible refine Le.chk ?_ | with_reducible refine Le.bif ?_ ?_ | with_reducible refine Le.map ?_ | with_reducible refine Le.loop (fun s=>?_) | with_reducible exact Dec.parse.j1.c_le .. | with_reducible refine Le.bindF ?_ (fun z=>?_) | with_reducible exact Le.refl _ | (rcases z with ⟨_,_⟩; dsimp only))
noncomputable def Dec.parse.j0.c (s0_1:ByteArray) (p2_0:Int) (p2_1:ByteArray) (p2_2:ByteArray) (p2_3:Int):Option (decimal.parsed × Bool) :=
  letkF (s0_1.data.toList == (⟨#[105,110,102]⟩:ByteArray).data.toList) fun t28 =>
  bif t28 then
    Dec.parse.j9.c s0_1 p2_0 p2_1 p2_2 p2_3 true
  else
    letkF (s0_1.data.toList == (⟨#[110,97,110]⟩:ByteArray).data.toList) fun t31 =>
    Dec.parse.j9.c s0_1 p2_0 p2_1 p2_2 p2_3 t31
theorem Dec.parse.j0.c_le (s0_1:ByteArray) (p2_0:Int) (p2_1:ByteArray) (p2_2:ByteArray) (p2_3:Int):Le (Dec.parse.j0.c s0_1 p2_0 p2_1 p2_2 p2_3) (Dec.parse.j0 s0_1 p2_0 p2_1 p2_2 p2_3):=by
  unfold Dec.parse.j0.c Dec.parse.j0
  repeat' (first | with_reducible refine Le.letkF (by first | rfl | simp only [Lib.toList_data]) (fun z=>?_) | with_reducible refine Le.chk ?_ | with_reducible refine Le.bif ?_ ?_ | with_reducible refine Le.map ?_ | with_reducible refine Le.loop (fun s=>?_) | with_reducible exact Dec.parse.j9.c_le .. | with_reducible refine Le.bindF ?_ (fun z=>?_) | with_reducible exact Le.refl _ | (rcases z with ⟨_,_⟩; dsimp only))
noncomputable def Dec.parse.j10.c (s0:ByteArray) (t20:Bool):Option (decimal.parsed × Bool) :=
  bif t20 then
    chkD (0 ≤ (0:Int) ∧ (0:Int) < (s0.size:Int)) <|
    letkF (bt s0 (0:Int)) fun t22 =>
    letkF (t22 == (45:Int)) fun t23 =>
    bif t23 then
      chkD (0 ≤ (1:Int) ∧ (1:Int) ≤ (s0.size:Int)) <|
      letkF (s0.extract (1:Int).toNat s0.size) fun t26_1 =>
      Dec.parse.j0.c t26_1 1 (⟨#[]⟩) (⟨#[]⟩) 0
    else
      chkD (0 ≤ (1:Int) ∧ (1:Int) ≤ (s0.size:Int)) <|
      letkF (s0.extract (1:Int).toNat s0.size) fun t26 =>
      Dec.parse.j0.c t26 0 (⟨#[]⟩) (⟨#[]⟩) 0
  else
    Dec.parse.j0.c s0 0 (⟨#[]⟩) (⟨#[]⟩) 0
theorem Dec.parse.j10.c_le (s0:ByteArray) (t20:Bool):Le (Dec.parse.j10.c s0 t20) (Dec.parse.j10 s0 t20):=by
  unfold Dec.parse.j10.c Dec.parse.j10
  repeat' (first | with_reducible refine Le.letkF (by first | rfl | simp only [Lib.toList_data]) (fun z=>?_) | with_reducible refine Le.chk ?_ | with_reducible refine Le.bif ?_ ?_ | with_reducible refine Le.map ?_ | with_reducible refine Le.loop (fun s=>?_) | with_reducible exact Dec.parse.j0.c_le .. | with_reducible refine Le.bindF ?_ (fun z=>?_) | with_reducible exact Le.refl _ | (rcases z with ⟨_,_⟩; dsimp only))
noncomputable def Dec.parse.c (s0:ByteArray):Option (decimal.parsed × Bool) :=
  letkF (!(s0.data.toList == (⟨#[]⟩:ByteArray).data.toList)) fun t10 =>
  bif t10 then
    chkD (0 ≤ (0:Int) ∧ (0:Int) < (s0.size:Int)) <|
    letkF (bt s0 (0:Int)) fun t13 =>
    letkF (t13 == (45:Int)) fun t14 =>
    bif t14 then
      Dec.parse.j10.c s0 true
    else
      chkD (0 ≤ (0:Int) ∧ (0:Int) < (s0.size:Int)) <|
      letkF (bt s0 (0:Int)) fun t17 =>
      letkF (t17 == (43:Int)) fun t18 =>
      Dec.parse.j10.c s0 t18
  else
    Dec.parse.j10.c s0 false
theorem Dec.parse.c_le (s0:ByteArray):Le (Dec.parse.c s0) (Dec.parse s0):=by
  unfold Dec.parse.c Dec.parse
  repeat' (first | with_reducible refine Le.letkF (by first | rfl | simp only [Lib.toList_data]) (fun z=>?_) | with_reducible refine Le.chk ?_ | with_reducible refine Le.bif ?_ ?_ | with_reducible refine Le.map ?_ | with_reducible refine Le.loop (fun s=>?_) | with_reducible exact Dec.parse.j10.c_le .. | with_reducible refine Le.bindF ?_ (fun z=>?_) | with_reducible exact Le.refl _ | (rcases z with ⟨_,_⟩; dsimp only))
noncomputable def Flt.shape.pack.c (s0:float.shape) (sign1:Int) (e2:Int) (f3:Int):Option Int :=
  letkF (IntKind.u64.wrap sign1) fun t10 =>
  letkF (IntKind.i64.wrap (s0.p + s0.w)) fun t15 =>
  letkF (IntKind.i64.wrap (t15 - (1:Int))) fun t16 =>
  chkD (0 ≤ t16) <|
  letkF (IntKind.u64.wrap (t10 * 2 ^ (min t16.toNat (IntKind.u64).bits))) fun t17 =>
  letkF (IntKind.i64.wrap (s0.p - (1:Int))) fun t21 =>
  chkD (0 ≤ t21) <|
  letkF (IntKind.u64.wrap (e2 * 2 ^ (min t21.toNat (IntKind.u64).bits))) fun t22 =>
  letkF (IntKind.u64.wrap (BitVec.ofInt (IntKind.u64).bits t17 ||| BitVec.ofInt (IntKind.u64).bits t22).toNat) fun t23 =>
  letkF (IntKind.u64.wrap (BitVec.ofInt (IntKind.u64).bits t23 ||| BitVec.ofInt (IntKind.u64).bits f3).toNat) fun t25 =>
  letkF (IntKind.i64.wrap t25) fun t26 =>
  some t26
theorem Flt.shape.pack.c_le (s0:float.shape) (sign1:Int) (e2:Int) (f3:Int):Le (Flt.shape.pack.c s0 sign1 e2 f3) (Flt.shape.pack s0 sign1 e2 f3):=by
  unfold Flt.shape.pack.c Flt.shape.pack
  repeat' (first | with_reducible refine Le.letkF (by first | rfl | simp only [Lib.toList_data]) (fun z=>?_) | with_reducible refine Le.chk ?_ | with_reducible refine Le.bif ?_ ?_ | with_reducible refine Le.map ?_ | with_reducible refine Le.loop (fun s=>?_) | with_reducible refine Le.bindF ?_ (fun z=>?_) | with_reducible exact Le.refl _ | (rcases z with ⟨_,_⟩; dsimp only))
noncomputable def Flt.shape.zero.c (s0:float.shape) (sign1:Int):Option Int :=
  bindF (Flt.shape.pack.c (⟨s0.p,s0.w⟩:float.shape) sign1 0 0) fun t7 =>
  some t7
theorem Flt.shape.zero.c_le (s0:float.shape) (sign1:Int):Le (Flt.shape.zero.c s0 sign1) (Flt.shape.zero s0 sign1):=by
  unfold Flt.shape.zero.c Flt.shape.zero
  repeat' (first | with_reducible refine Le.letkF (by first | rfl | simp only [Lib.toList_data]) (fun z=>?_) | with_reducible refine Le.chk ?_ | with_reducible refine Le.bif ?_ ?_ | with_reducible refine Le.map ?_ | with_reducible refine Le.loop (fun s=>?_) | with_reducible exact Flt.shape.pack.c_le .. | with_reducible refine Le.bindF ?_ (fun z=>?_) | with_reducible exact Le.refl _ | (rcases z with ⟨_,_⟩; dsimp only))
noncomputable def Flt.exact.long.c (x0:float.exact):Option Int :=
  letkF (x0.hi != (0:Int)) fun t5 =>
  bif t5 then
    bindF (Bits.Len64.c x0.hi) fun t8 =>
    letkF (IntKind.i64.wrap ((64:Int) + t8)) fun t9 =>
    some t9
  else
    bindF (Bits.Len64.c x0.lo) fun t12 =>
    some t12
theorem Flt.exact.long.c_le (x0:float.exact):Le (Flt.exact.long.c x0) (Flt.exact.long x0):=by
  unfold Flt.exact.long.c Flt.exact.long
  repeat' (first | with_reducible refine Le.letkF (by first | rfl | simp only [Lib.toList_data]) (fun z=>?_) | with_reducible refine Le.chk ?_ | with_reducible refine Le.bif ?_ ?_ | with_reducible refine Le.map ?_ | with_reducible refine Le.loop (fun s=>?_) | with_reducible exact Bits.Len64.c_le .. | with_reducible refine Le.bindF ?_ (fun z=>?_) | with_reducible exact Le.refl _ | (rcases z with ⟨_,_⟩; dsimp only))
noncomputable def Flt.exact.right.j2.c (lo7:Int) (half8_2:Bool) (below9_2:Bool) (t48:Bool):Option (Int × Int) :=
  bif t48 then
    some (lo7,3)
  else
    bif half8_2 then
      some (lo7,2)
    else
      bif below9_2 then
        some (lo7,1)
      else
        some (lo7,0)
theorem Flt.exact.right.j2.c_le (lo7:Int) (half8_2:Bool) (below9_2:Bool) (t48:Bool):Le (Flt.exact.right.j2.c lo7 half8_2 below9_2 t48) (Flt.exact.right.j2 lo7 half8_2 below9_2 t48):=by
  unfold Flt.exact.right.j2.c Flt.exact.right.j2
  repeat' (first | with_reducible refine Le.letkF (by first | rfl | simp only [Lib.toList_data]) (fun z=>?_) | with_reducible refine Le.chk ?_ | with_reducible refine Le.bif ?_ ?_ | with_reducible refine Le.map ?_ | with_reducible refine Le.loop (fun s=>?_) | with_reducible refine Le.bindF ?_ (fun z=>?_) | with_reducible exact Le.refl _ | (rcases z with ⟨_,_⟩; dsimp only))
noncomputable def Flt.exact.right.j1.c (lo7:Int) (half8_1:Bool) (below9_1:Bool):Option (Int × Int) :=
  bif half8_1 then
    Flt.exact.right.j2.c lo7 true below9_1 below9_1
  else
    Flt.exact.right.j2.c lo7 false below9_1 false
theorem Flt.exact.right.j1.c_le (lo7:Int) (half8_1:Bool) (below9_1:Bool):Le (Flt.exact.right.j1.c lo7 half8_1 below9_1) (Flt.exact.right.j1 lo7 half8_1 below9_1):=by
  unfold Flt.exact.right.j1.c Flt.exact.right.j1
  repeat' (first | with_reducible refine Le.letkF (by first | rfl | simp only [Lib.toList_data]) (fun z=>?_) | with_reducible refine Le.chk ?_ | with_reducible refine Le.bif ?_ ?_ | with_reducible refine Le.map ?_ | with_reducible refine Le.loop (fun s=>?_) | with_reducible exact Flt.exact.right.j2.c_le .. | with_reducible refine Le.bindF ?_ (fun z=>?_) | with_reducible exact Le.refl _ | (rcases z with ⟨_,_⟩; dsimp only))
noncomputable def Flt.exact.right.j0.c (n1_1:Int) (lo7:Int) (half8:Bool) (below9:Bool):Option (Int × Int) :=
  letkF (decide (n1_1 > (0:Int))) fun t47 =>
  bif t47 then
    Flt.exact.right.j1.c lo7 false true
  else
    Flt.exact.right.j1.c lo7 half8 below9
theorem Flt.exact.right.j0.c_le (n1_1:Int) (lo7:Int) (half8:Bool) (below9:Bool):Le (Flt.exact.right.j0.c n1_1 lo7 half8 below9) (Flt.exact.right.j0 n1_1 lo7 half8 below9):=by
  unfold Flt.exact.right.j0.c Flt.exact.right.j0
  repeat' (first | with_reducible refine Le.letkF (by first | rfl | simp only [Lib.toList_data]) (fun z=>?_) | with_reducible refine Le.chk ?_ | with_reducible refine Le.bif ?_ ?_ | with_reducible refine Le.map ?_ | with_reducible refine Le.loop (fun s=>?_) | with_reducible exact Flt.exact.right.j1.c_le .. | with_reducible refine Le.bindF ?_ (fun z=>?_) | with_reducible exact Le.refl _ | (rcases z with ⟨_,_⟩; dsimp only))
noncomputable def Flt.exact.right.j4.c (n1_2:Int) (hi6:Int) (lo7_1:Int) (below9_5:Bool):Option ((Int × Int × Int × Bool × Bool) ⊕ (Int × Int)) :=
  letkF (IntKind.u64.wrap (BitVec.ofInt (IntKind.u64).bits lo7_1 &&& BitVec.ofInt (IntKind.u64).bits (1:Int)).toNat) fun t36 =>
  letkF (t36 == (1:Int)) fun t37 =>
  chkD (0 ≤ (1:Int)) <|
  letkF ((IntKind.u64,lo7_1.fdiv (2 ^ (min (1:Int).toNat (IntKind.u64).bits))).2) fun t39 =>
  chkD (0 ≤ (63:Int)) <|
  letkF (IntKind.u64.wrap (hi6 * 2 ^ (min (63:Int).toNat (IntKind.u64).bits))) fun t41 =>
  letkF (IntKind.u64.wrap (BitVec.ofInt (IntKind.u64).bits t39 ||| BitVec.ofInt (IntKind.u64).bits t41).toNat) fun t42 =>
  chkD (0 ≤ (1:Int)) <|
  letkF ((IntKind.u64,hi6.fdiv (2 ^ (min (1:Int).toNat (IntKind.u64).bits))).2) fun t44 =>
  letkF (IntKind.i64.wrap (n1_2 - (1:Int))) fun t30 =>
  some (.inl (t30,t44,t42,t37,below9_5))
theorem Flt.exact.right.j4.c_le (n1_2:Int) (hi6:Int) (lo7_1:Int) (below9_5:Bool):Le (Flt.exact.right.j4.c n1_2 hi6 lo7_1 below9_5) (Flt.exact.right.j4 n1_2 hi6 lo7_1 below9_5):=by
  unfold Flt.exact.right.j4.c Flt.exact.right.j4
  repeat' (first | with_reducible refine Le.letkF (by first | rfl | simp only [Lib.toList_data]) (fun z=>?_) | with_reducible refine Le.chk ?_ | with_reducible refine Le.bif ?_ ?_ | with_reducible refine Le.map ?_ | with_reducible refine Le.loop (fun s=>?_) | with_reducible refine Le.bindF ?_ (fun z=>?_) | with_reducible exact Le.refl _ | (rcases z with ⟨_,_⟩; dsimp only))
noncomputable def Flt.exact.right.j3.c (n1_2:Int) (hi6:Int) (lo7_1:Int) (half8_4:Bool) (below9_4:Bool):Option ((Int × Int × Int × Bool × Bool) ⊕ (Int × Int)) :=
  bif below9_4 then
    Flt.exact.right.j4.c n1_2 hi6 lo7_1 true
  else
    Flt.exact.right.j4.c n1_2 hi6 lo7_1 half8_4
theorem Flt.exact.right.j3.c_le (n1_2:Int) (hi6:Int) (lo7_1:Int) (half8_4:Bool) (below9_4:Bool):Le (Flt.exact.right.j3.c n1_2 hi6 lo7_1 half8_4 below9_4) (Flt.exact.right.j3 n1_2 hi6 lo7_1 half8_4 below9_4):=by
  unfold Flt.exact.right.j3.c Flt.exact.right.j3
  repeat' (first | with_reducible refine Le.letkF (by first | rfl | simp only [Lib.toList_data]) (fun z=>?_) | with_reducible refine Le.chk ?_ | with_reducible refine Le.bif ?_ ?_ | with_reducible refine Le.map ?_ | with_reducible refine Le.loop (fun s=>?_) | with_reducible exact Flt.exact.right.j4.c_le .. | with_reducible refine Le.bindF ?_ (fun z=>?_) | with_reducible exact Le.refl _ | (rcases z with ⟨_,_⟩; dsimp only))
noncomputable def Flt.exact.right.s0.c (n1_2:Int) (hi6:Int) (lo7_1:Int) (half8_3:Bool) (below9_3:Bool):Option ((Int × Int × Int × Bool × Bool) ⊕ (Int × Int)) :=
  letkF (decide (n1_2 > (0:Int))) fun t17 =>
  bif t17 then
    letkF (hi6 != (0:Int)) fun t20 =>
    bif t20 then
      Flt.exact.right.j3.c n1_2 hi6 lo7_1 half8_3 below9_3
    else
      letkF (lo7_1 != (0:Int)) fun t23 =>
      bif t23 then
        Flt.exact.right.j3.c n1_2 hi6 lo7_1 half8_3 below9_3
      else
        bif half8_3 then
          Flt.exact.right.j3.c n1_2 hi6 lo7_1 true below9_3
        else
          (Flt.exact.right.j0.c n1_2 lo7_1 false below9_3).map .inr
  else
    (Flt.exact.right.j0.c n1_2 lo7_1 half8_3 below9_3).map .inr
theorem Flt.exact.right.s0.c_le (n1_2:Int) (hi6:Int) (lo7_1:Int) (half8_3:Bool) (below9_3:Bool):Le (Flt.exact.right.s0.c n1_2 hi6 lo7_1 half8_3 below9_3) (Flt.exact.right.s0 n1_2 hi6 lo7_1 half8_3 below9_3):=by
  unfold Flt.exact.right.s0.c Flt.exact.right.s0
  repeat' (first | with_reducible refine Le.letkF (by first | rfl | simp only [Lib.toList_data]) (fun z=>?_) | with_reducible refine Le.chk ?_ | with_reducible refine Le.bif ?_ ?_ | with_reducible refine Le.map ?_ | with_reducible refine Le.loop (fun s=>?_) | with_reducible exact Flt.exact.right.j0.c_le .. | with_reducible exact Flt.exact.right.j3.c_le .. | with_reducible refine Le.bindF ?_ (fun z=>?_) | with_reducible exact Le.refl _ | (rcases z with ⟨_,_⟩; dsimp only))
noncomputable def Flt.exact.right.l0.c (n1_2:Int) (hi6:Int) (lo7_1:Int) (half8_3:Bool) (below9_3:Bool):Option (Int × Int):=iterO (fun v:Int × Int × Int × Bool × Bool=>Flt.exact.right.s0.c v.1 v.2.1 v.2.2.1 v.2.2.2.1 v.2.2.2.2) 3000 (n1_2,hi6,lo7_1,half8_3,below9_3)
theorem Flt.exact.right.l0.c_le (n1_2:Int) (hi6:Int) (lo7_1:Int) (half8_3:Bool) (below9_3:Bool):Le (Flt.exact.right.l0.c n1_2 hi6 lo7_1 half8_3 below9_3) (Flt.exact.right.l0 n1_2 hi6 lo7_1 half8_3 below9_3):=by
  unfold Flt.exact.right.l0.c Flt.exact.right.l0
  repeat' (first | with_reducible refine Le.letkF (by first | rfl | simp only [Lib.toList_data]) (fun z=>?_) | with_reducible refine Le.chk ?_ | with_reducible refine Le.bif ?_ ?_ | with_reducible refine Le.map ?_ | with_reducible refine Le.loop (fun s=>?_) | with_reducible exact Flt.exact.right.s0.c_le .. | with_reducible refine Le.bindF ?_ (fun z=>?_) | with_reducible exact Le.refl _ | (rcases z with ⟨_,_⟩; dsimp only))
noncomputable def Flt.exact.right.c (x0:float.exact) (n1:Int):Option (Int × Int) :=
  Flt.exact.right.l0.c n1 x0.hi x0.lo false x0.more
theorem Flt.exact.right.c_le (x0:float.exact) (n1:Int):Le (Flt.exact.right.c x0 n1) (Flt.exact.right x0 n1):=by
  unfold Flt.exact.right.c Flt.exact.right
  repeat' (first | with_reducible refine Le.letkF (by first | rfl | simp only [Lib.toList_data]) (fun z=>?_) | with_reducible refine Le.chk ?_ | with_reducible refine Le.bif ?_ ?_ | with_reducible refine Le.map ?_ | with_reducible refine Le.loop (fun s=>?_) | with_reducible exact Flt.exact.right.l0.c_le .. | with_reducible refine Le.bindF ?_ (fun z=>?_) | with_reducible exact Le.refl _ | (rcases z with ⟨_,_⟩; dsimp only))
noncomputable def Flt.away.c (mode0:Int) (sign1:Int) (odd2:Bool) (rest3:Int):Option Bool :=
  letkF (mode0 == (0:Int)) fun t11 =>
  bif t11 then
    letkF (rest3 == (3:Int)) fun t13 =>
    bif t13 then
      some true
    else
      letkF (rest3 == (2:Int)) fun t16 =>
      bif t16 then
        some odd2
      else
        some false
  else
    letkF (mode0 == (2:Int)) fun t22 =>
    bif t22 then
      letkF (decide (rest3 > (0:Int))) fun t24 =>
      bif t24 then
        letkF (sign1 == (1:Int)) fun t27 =>
        some t27
      else
        some false
    else
      letkF (mode0 == (3:Int)) fun t30 =>
      bif t30 then
        letkF (decide (rest3 > (0:Int))) fun t32 =>
        bif t32 then
          letkF (sign1 == (0:Int)) fun t35 =>
          some t35
        else
          some false
      else
        some false
theorem Flt.away.c_le (mode0:Int) (sign1:Int) (odd2:Bool) (rest3:Int):Le (Flt.away.c mode0 sign1 odd2 rest3) (Flt.away mode0 sign1 odd2 rest3):=by
  unfold Flt.away.c Flt.away
  repeat' (first | with_reducible refine Le.letkF (by first | rfl | simp only [Lib.toList_data]) (fun z=>?_) | with_reducible refine Le.chk ?_ | with_reducible refine Le.bif ?_ ?_ | with_reducible refine Le.map ?_ | with_reducible refine Le.loop (fun s=>?_) | with_reducible refine Le.bindF ?_ (fun z=>?_) | with_reducible exact Le.refl _ | (rcases z with ⟨_,_⟩; dsimp only))
noncomputable def Flt.shape.greatest.c (s0:float.shape) (sign1:Int):Option Int :=
  bindF (Flt.shape.top.c (⟨s0.p,s0.w⟩:float.shape)) fun t8 =>
  letkF (IntKind.u64.wrap (t8 - (1:Int))) fun t9 =>
  letkF (IntKind.i64.wrap (s0.p - (1:Int))) fun t12 =>
  chkD (0 ≤ t12) <|
  letkF (IntKind.u64.wrap ((1:Int) * 2 ^ (min t12.toNat (IntKind.u64).bits))) fun t13 =>
  letkF (IntKind.u64.wrap (t13 - (1:Int))) fun t14 =>
  bindF (Flt.shape.pack.c (⟨s0.p,s0.w⟩:float.shape) sign1 t9 t14) fun t15 =>
  some t15
theorem Flt.shape.greatest.c_le (s0:float.shape) (sign1:Int):Le (Flt.shape.greatest.c s0 sign1) (Flt.shape.greatest s0 sign1):=by
  unfold Flt.shape.greatest.c Flt.shape.greatest
  repeat' (first | with_reducible refine Le.letkF (by first | rfl | simp only [Lib.toList_data]) (fun z=>?_) | with_reducible refine Le.chk ?_ | with_reducible refine Le.bif ?_ ?_ | with_reducible refine Le.map ?_ | with_reducible refine Le.loop (fun s=>?_) | with_reducible exact Flt.shape.top.c_le .. | with_reducible exact Flt.shape.pack.c_le .. | with_reducible refine Le.bindF ?_ (fun z=>?_) | with_reducible exact Le.refl _ | (rcases z with ⟨_,_⟩; dsimp only))
noncomputable def Flt.shape.infinite.c (s0:float.shape) (sign1:Int):Option Int :=
  bindF (Flt.shape.top.c (⟨s0.p,s0.w⟩:float.shape)) fun t8 =>
  bindF (Flt.shape.pack.c (⟨s0.p,s0.w⟩:float.shape) sign1 t8 0) fun t9 =>
  some t9
theorem Flt.shape.infinite.c_le (s0:float.shape) (sign1:Int):Le (Flt.shape.infinite.c s0 sign1) (Flt.shape.infinite s0 sign1):=by
  unfold Flt.shape.infinite.c Flt.shape.infinite
  repeat' (first | with_reducible refine Le.letkF (by first | rfl | simp only [Lib.toList_data]) (fun z=>?_) | with_reducible refine Le.chk ?_ | with_reducible refine Le.bif ?_ ?_ | with_reducible refine Le.map ?_ | with_reducible refine Le.loop (fun s=>?_) | with_reducible exact Flt.shape.top.c_le .. | with_reducible exact Flt.shape.pack.c_le .. | with_reducible refine Le.bindF ?_ (fun z=>?_) | with_reducible exact Le.refl _ | (rcases z with ⟨_,_⟩; dsimp only))
noncomputable def Flt.shape.round.j4.c (sign2:Int) (s4_0_2:Int) (s4_1_2:Int) (t133:Bool):Option (Int × Int) :=
  bif t133 then
    bindF (Flt.shape.greatest.c (⟨s4_0_2,s4_1_2⟩:float.shape) sign2) fun t136 =>
    some (t136,20)
  else
    bindF (Flt.shape.infinite.c (⟨s4_0_2,s4_1_2⟩:float.shape) sign2) fun t139 =>
    some (t139,20)
theorem Flt.shape.round.j4.c_le (sign2:Int) (s4_0_2:Int) (s4_1_2:Int) (t133:Bool):Le (Flt.shape.round.j4.c sign2 s4_0_2 s4_1_2 t133) (Flt.shape.round.j4 sign2 s4_0_2 s4_1_2 t133):=by
  unfold Flt.shape.round.j4.c Flt.shape.round.j4
  repeat' (first | with_reducible refine Le.letkF (by first | rfl | simp only [Lib.toList_data]) (fun z=>?_) | with_reducible refine Le.chk ?_ | with_reducible refine Le.bif ?_ ?_ | with_reducible refine Le.map ?_ | with_reducible refine Le.loop (fun s=>?_) | with_reducible exact Flt.shape.greatest.c_le .. | with_reducible exact Flt.shape.infinite.c_le .. | with_reducible refine Le.bindF ?_ (fun z=>?_) | with_reducible exact Le.refl _ | (rcases z with ⟨_,_⟩; dsimp only))
noncomputable def Flt.shape.round.j3.c (mode1:Int) (sign2:Int) (flags9:Int) (s4_0_2:Int) (s4_1_2:Int) (last11:Int) (m12_2:Int):Option (Int × Int) :=
  letkF (IntKind.i64.wrap (s4_0_2 - (1:Int))) fun t82 =>
  chkD (0 ≤ t82) <|
  letkF (IntKind.u64.wrap ((1:Int) * 2 ^ (min t82.toNat (IntKind.u64).bits))) fun t83 =>
  letkF (decide (m12_2 < t83)) fun t84 =>
  bif t84 then
    bindF (Flt.shape.pack.c (⟨s4_0_2,s4_1_2⟩:float.shape) sign2 0 m12_2) fun t88 =>
    some (t88,flags9)
  else
    letkF (IntKind.i64.wrap (last11 + s4_0_2)) fun t93 =>
    letkF (IntKind.i64.wrap (t93 - (1:Int))) fun t94 =>
    bindF (Flt.shape.bias.c (⟨s4_0_2,s4_1_2⟩:float.shape)) fun t96 =>
    letkF (IntKind.i64.wrap (t94 + t96)) fun t97 =>
    bindF (Flt.shape.top.c (⟨s4_0_2,s4_1_2⟩:float.shape)) fun t100 =>
    letkF (IntKind.i64.wrap t100) fun t101 =>
    letkF (decide (t97 < t101)) fun t102 =>
    bif t102 then
      letkF (IntKind.u64.wrap t97) fun t106 =>
      letkF (IntKind.i64.wrap (s4_0_2 - (1:Int))) fun t110 =>
      chkD (0 ≤ t110) <|
      letkF (IntKind.u64.wrap ((1:Int) * 2 ^ (min t110.toNat (IntKind.u64).bits))) fun t111 =>
      letkF (IntKind.u64.wrap (t111 - (1:Int))) fun t112 =>
      letkF (IntKind.u64.wrap (BitVec.ofInt (IntKind.u64).bits m12_2 &&& BitVec.ofInt (IntKind.u64).bits t112).toNat) fun t113 =>
      bindF (Flt.shape.pack.c (⟨s4_0_2,s4_1_2⟩:float.shape) sign2 t106 t113) fun t114 =>
      some (t114,flags9)
    else
      letkF (mode1 == (1:Int)) fun t117 =>
      bif t117 then
        Flt.shape.round.j4.c sign2 s4_0_2 s4_1_2 true
      else
        letkF (mode1 == (2:Int)) fun t120 =>
        bif t120 then
          letkF (sign2 == (0:Int)) fun t123 =>
          bif t123 then
            Flt.shape.round.j4.c sign2 s4_0_2 s4_1_2 true
          else
            letkF (mode1 == (3:Int)) fun t128_1 =>
            bif t128_1 then
              letkF (sign2 == (1:Int)) fun t131_1 =>
              Flt.shape.round.j4.c sign2 s4_0_2 s4_1_2 t131_1
            else
              Flt.shape.round.j4.c sign2 s4_0_2 s4_1_2 false
        else
          letkF (mode1 == (3:Int)) fun t128 =>
          bif t128 then
            letkF (sign2 == (1:Int)) fun t131 =>
            Flt.shape.round.j4.c sign2 s4_0_2 s4_1_2 t131
          else
            Flt.shape.round.j4.c sign2 s4_0_2 s4_1_2 false
theorem Flt.shape.round.j3.c_le (mode1:Int) (sign2:Int) (flags9:Int) (s4_0_2:Int) (s4_1_2:Int) (last11:Int) (m12_2:Int):Le (Flt.shape.round.j3.c mode1 sign2 flags9 s4_0_2 s4_1_2 last11 m12_2) (Flt.shape.round.j3 mode1 sign2 flags9 s4_0_2 s4_1_2 last11 m12_2):=by
  unfold Flt.shape.round.j3.c Flt.shape.round.j3
  repeat' (first | with_reducible refine Le.letkF (by first | rfl | simp only [Lib.toList_data]) (fun z=>?_) | with_reducible refine Le.chk ?_ | with_reducible refine Le.bif ?_ ?_ | with_reducible refine Le.map ?_ | with_reducible refine Le.loop (fun s=>?_) | with_reducible exact Flt.shape.top.c_le .. | with_reducible exact Flt.shape.bias.c_le .. | with_reducible exact Flt.shape.pack.c_le .. | with_reducible exact Flt.shape.round.j4.c_le .. | with_reducible refine Le.bindF ?_ (fun z=>?_) | with_reducible exact Le.refl _ | (rcases z with ⟨_,_⟩; dsimp only))
noncomputable def Flt.shape.round.j2.c (mode1:Int) (sign2:Int) (t28:Int) (flags9:Int) (s4_0_2:Int) (s4_1_2:Int) (m12_1:Int):Option (Int × Int) :=
  chkD (0 ≤ s4_0_2) <|
  letkF (IntKind.u64.wrap ((1:Int) * 2 ^ (min s4_0_2.toNat (IntKind.u64).bits))) fun t73 =>
  letkF (m12_1 == t73) fun t74 =>
  bif t74 then
    chkD (0 ≤ (1:Int)) <|
    letkF ((IntKind.u64,m12_1.fdiv (2 ^ (min (1:Int).toNat (IntKind.u64).bits))).2) fun t76 =>
    letkF (IntKind.i64.wrap (t28 + (1:Int))) fun t78 =>
    Flt.shape.round.j3.c mode1 sign2 flags9 s4_0_2 s4_1_2 t78 t76
  else
    Flt.shape.round.j3.c mode1 sign2 flags9 s4_0_2 s4_1_2 t28 m12_1
theorem Flt.shape.round.j2.c_le (mode1:Int) (sign2:Int) (t28:Int) (flags9:Int) (s4_0_2:Int) (s4_1_2:Int) (m12_1:Int):Le (Flt.shape.round.j2.c mode1 sign2 t28 flags9 s4_0_2 s4_1_2 m12_1) (Flt.shape.round.j2 mode1 sign2 t28 flags9 s4_0_2 s4_1_2 m12_1):=by
  unfold Flt.shape.round.j2.c Flt.shape.round.j2
  repeat' (first | with_reducible refine Le.letkF (by first | rfl | simp only [Lib.toList_data]) (fun z=>?_) | with_reducible refine Le.chk ?_ | with_reducible refine Le.bif ?_ ?_ | with_reducible refine Le.map ?_ | with_reducible refine Le.loop (fun s=>?_) | with_reducible exact Flt.shape.round.j3.c_le .. | with_reducible refine Le.bindF ?_ (fun z=>?_) | with_reducible exact Le.refl _ | (rcases z with ⟨_,_⟩; dsimp only))
noncomputable def Flt.shape.round.j1.c (mode1:Int) (sign2:Int) (t28:Int) (m12:Int) (rest13:Int) (s4_0_1:Int) (s4_1_1:Int) (flags9:Int):Option (Int × Int) :=
  letkF (IntKind.u64.wrap (BitVec.ofInt (IntKind.u64).bits m12 &&& BitVec.ofInt (IntKind.u64).bits (1:Int)).toNat) fun t64 =>
  letkF (t64 == (1:Int)) fun t65 =>
  bindF (Flt.away.c mode1 sign2 t65 rest13) fun t67 =>
  bif t67 then
    letkF (IntKind.u64.wrap (m12 + (1:Int))) fun t69 =>
    Flt.shape.round.j2.c mode1 sign2 t28 flags9 s4_0_1 s4_1_1 t69
  else
    Flt.shape.round.j2.c mode1 sign2 t28 flags9 s4_0_1 s4_1_1 m12
theorem Flt.shape.round.j1.c_le (mode1:Int) (sign2:Int) (t28:Int) (m12:Int) (rest13:Int) (s4_0_1:Int) (s4_1_1:Int) (flags9:Int):Le (Flt.shape.round.j1.c mode1 sign2 t28 m12 rest13 s4_0_1 s4_1_1 flags9) (Flt.shape.round.j1 mode1 sign2 t28 m12 rest13 s4_0_1 s4_1_1 flags9):=by
  unfold Flt.shape.round.j1.c Flt.shape.round.j1
  repeat' (first | with_reducible refine Le.letkF (by first | rfl | simp only [Lib.toList_data]) (fun z=>?_) | with_reducible refine Le.chk ?_ | with_reducible refine Le.bif ?_ ?_ | with_reducible refine Le.map ?_ | with_reducible refine Le.loop (fun s=>?_) | with_reducible exact Flt.away.c_le .. | with_reducible exact Flt.shape.round.j2.c_le .. | with_reducible refine Le.bindF ?_ (fun z=>?_) | with_reducible exact Le.refl _ | (rcases z with ⟨_,_⟩; dsimp only))
noncomputable def Flt.shape.round.j0.c (mode1:Int) (sign2:Int) (t20:Int) (t28:Int) (s4_0:Int) (s4_1:Int) (m12:Int) (rest13:Int):Option (Int × Int) :=
  letkF (decide (rest13 > (0:Int))) fun t50 =>
  bif t50 then
    bindF (Flt.shape.least.c (⟨s4_0,s4_1⟩:float.shape)) fun t53 =>
    letkF (IntKind.i64.wrap (t53 + s4_0)) fun t56 =>
    letkF (IntKind.i64.wrap (t56 - (1:Int))) fun t57 =>
    letkF (decide (t20 < t57)) fun t58 =>
    bif t58 then
      letkF (IntKind.i64.wrap (BitVec.ofInt (IntKind.i64).bits (16:Int) ||| BitVec.ofInt (IntKind.i64).bits (8:Int)).toNat) fun t60 =>
      Flt.shape.round.j1.c mode1 sign2 t28 m12 rest13 s4_0 s4_1 t60
    else
      Flt.shape.round.j1.c mode1 sign2 t28 m12 rest13 s4_0 s4_1 16
  else
    Flt.shape.round.j1.c mode1 sign2 t28 m12 rest13 s4_0 s4_1 0
theorem Flt.shape.round.j0.c_le (mode1:Int) (sign2:Int) (t20:Int) (t28:Int) (s4_0:Int) (s4_1:Int) (m12:Int) (rest13:Int):Le (Flt.shape.round.j0.c mode1 sign2 t20 t28 s4_0 s4_1 m12 rest13) (Flt.shape.round.j0 mode1 sign2 t20 t28 s4_0 s4_1 m12 rest13):=by
  unfold Flt.shape.round.j0.c Flt.shape.round.j0
  repeat' (first | with_reducible refine Le.letkF (by first | rfl | simp only [Lib.toList_data]) (fun z=>?_) | with_reducible refine Le.chk ?_ | with_reducible refine Le.bif ?_ ?_ | with_reducible refine Le.map ?_ | with_reducible refine Le.loop (fun s=>?_) | with_reducible exact Flt.shape.least.c_le .. | with_reducible exact Flt.shape.round.j1.c_le .. | with_reducible refine Le.bindF ?_ (fun z=>?_) | with_reducible exact Le.refl _ | (rcases z with ⟨_,_⟩; dsimp only))
noncomputable def Flt.shape.round.c (s0:float.shape) (mode1:Int) (sign2:Int) (x3:float.exact):Option (Int × Int) :=
  bindF (Flt.exact.long.c (⟨x3.hi,x3.lo,x3.e,x3.more⟩:float.exact)) fun t18 =>
  letkF (IntKind.i64.wrap (x3.e + t18)) fun t19 =>
  letkF (IntKind.i64.wrap (t19 - (1:Int))) fun t20 =>
  letkF (IntKind.i64.wrap (t20 - s0.p)) fun t24 =>
  letkF (IntKind.i64.wrap (t24 + (1:Int))) fun t25 =>
  bindF (Flt.shape.least.c (⟨s0.p,s0.w⟩:float.shape)) fun t27 =>
  letkF (if t27 > t25 then t27 else t25) fun t28 =>
  letkF (decide (t28 ≤ x3.e)) fun t32 =>
  bif t32 then
    letkF (IntKind.i64.wrap (x3.e - t28)) fun t38 =>
    chkD (0 ≤ t38) <|
    letkF (IntKind.u64.wrap (x3.lo * 2 ^ (min t38.toNat (IntKind.u64).bits))) fun t39 =>
    Flt.shape.round.j0.c mode1 sign2 t20 t28 s0.p s0.w t39 0
  else
    letkF (IntKind.i64.wrap (t28 - x3.e)) fun t45 =>
    bindF (Flt.exact.right.c (⟨x3.hi,x3.lo,x3.e,x3.more⟩:float.exact) t45) fun (t46_0,t46_1) =>
    Flt.shape.round.j0.c mode1 sign2 t20 t28 s0.p s0.w t46_0 t46_1
theorem Flt.shape.round.c_le (s0:float.shape) (mode1:Int) (sign2:Int) (x3:float.exact):Le (Flt.shape.round.c s0 mode1 sign2 x3) (Flt.shape.round s0 mode1 sign2 x3):=by
  unfold Flt.shape.round.c Flt.shape.round
  repeat' (first | with_reducible refine Le.letkF (by first | rfl | simp only [Lib.toList_data]) (fun z=>?_) | with_reducible refine Le.chk ?_ | with_reducible refine Le.bif ?_ ?_ | with_reducible refine Le.map ?_ | with_reducible refine Le.loop (fun s=>?_) | with_reducible exact Flt.shape.least.c_le .. | with_reducible exact Flt.exact.long.c_le .. | with_reducible exact Flt.exact.right.c_le .. | with_reducible exact Flt.shape.round.j0.c_le .. | with_reducible refine Le.bindF ?_ (fun z=>?_) | with_reducible exact Le.refl _ | (rcases z with ⟨_,_⟩; dsimp only))
noncomputable def Flt.Make.j0.c (mode1:Int) (sign2:Int) (m3:Int) (e4:Int) (t17_0:float.shape):Option (Int × Int × Int) :=
  letkF (m3 == (0:Int)) fun t51 =>
  bif t51 then
    bindF (Flt.shape.zero.c (⟨t17_0.p,t17_0.w⟩:float.shape) sign2) fun t54 =>
    some (t54,0,0)
  else
    letkF (IntKind.u64.wrap m3) fun t60 =>
    bindF (Flt.shape.round.c (⟨t17_0.p,t17_0.w⟩:float.shape) mode1 sign2 (⟨0,t60,e4,false⟩:float.exact)) fun (t63_0,t63_1) =>
    some (t63_0,t63_1,0)
theorem Flt.Make.j0.c_le (mode1:Int) (sign2:Int) (m3:Int) (e4:Int) (t17_0:float.shape):Le (Flt.Make.j0.c mode1 sign2 m3 e4 t17_0) (Flt.Make.j0 mode1 sign2 m3 e4 t17_0):=by
  unfold Flt.Make.j0.c Flt.Make.j0
  repeat' (first | with_reducible refine Le.letkF (by first | rfl | simp only [Lib.toList_data]) (fun z=>?_) | with_reducible refine Le.chk ?_ | with_reducible refine Le.bif ?_ ?_ | with_reducible refine Le.map ?_ | with_reducible refine Le.loop (fun s=>?_) | with_reducible exact Flt.shape.zero.c_le .. | with_reducible exact Flt.shape.round.c_le .. | with_reducible refine Le.bindF ?_ (fun z=>?_) | with_reducible exact Le.refl _ | (rcases z with ⟨_,_⟩; dsimp only))
noncomputable def Flt.Make.c (kind0:Int) (mode1:Int) (sign2:Int) (m3:Int) (e4:Int):Option (Int × Int × Int) :=
  bindF (Flt.of.c kind0) fun (t17_0,t17_1) =>
  letkF (!t17_1) fun t21 =>
  bif t21 then
    some (0,0,2)
  else
    letkF (decide (mode1 < (0:Int))) fun t24 =>
    bif t24 then
      some (0,0,2)
    else
      letkF (decide (mode1 ≥ (4:Int))) fun t28 =>
      bif t28 then
        some (0,0,2)
      else
        letkF (decide (sign2 < (0:Int))) fun t32 =>
        bif t32 then
          some (0,0,2)
        else
          letkF (decide (sign2 > (1:Int))) fun t36 =>
          bif t36 then
            some (0,0,2)
          else
            letkF (decide (m3 < (0:Int))) fun t40 =>
            bif t40 then
              some (0,0,2)
            else
              letkF (decide (e4 < ((-2000):Int))) fun t44 =>
              bif t44 then
                some (0,0,2)
              else
                letkF (decide (e4 > (2000:Int))) fun t48 =>
                bif t48 then
                  some (0,0,2)
                else
                  Flt.Make.j0.c mode1 sign2 m3 e4 t17_0
theorem Flt.Make.c_le (kind0:Int) (mode1:Int) (sign2:Int) (m3:Int) (e4:Int):Le (Flt.Make.c kind0 mode1 sign2 m3 e4) (Flt.Make kind0 mode1 sign2 m3 e4):=by
  unfold Flt.Make.c Flt.Make
  repeat' (first | with_reducible refine Le.letkF (by first | rfl | simp only [Lib.toList_data]) (fun z=>?_) | with_reducible refine Le.chk ?_ | with_reducible refine Le.bif ?_ ?_ | with_reducible refine Le.map ?_ | with_reducible refine Le.loop (fun s=>?_) | with_reducible exact Flt.of.c_le .. | with_reducible exact Flt.Make.j0.c_le .. | with_reducible refine Le.bindF ?_ (fun z=>?_) | with_reducible exact Le.refl _ | (rcases z with ⟨_,_⟩; dsimp only))
noncomputable def Flt.two.j0.c (a2:Int) (b3:Int) (s8_0:Int) (s8_1:Int) (x9_0:Int) (x9_1:Int) (x9_2:Int) (x9_3:Int) (y10_0:Int) (y10_1:Int) (y10_2:Int) (y10_3:Int):Option (float.shape × float.number × float.number × Bool) :=
  bindF (Flt.shape.read.c (⟨s8_0,s8_1⟩:float.shape) a2) fun (t34_0,t34_1) =>
  bindF (Flt.shape.read.c (⟨s8_0,s8_1⟩:float.shape) b3) fun (t40_0,t40_1) =>
  bif t34_1 then
    some ((⟨s8_0,s8_1⟩:float.shape),(⟨t34_0.class_,t34_0.sign,t34_0.m,t34_0.e⟩:float.number),(⟨t40_0.class_,t40_0.sign,t40_0.m,t40_0.e⟩:float.number),t40_1)
  else
    some ((⟨s8_0,s8_1⟩:float.shape),(⟨t34_0.class_,t34_0.sign,t34_0.m,t34_0.e⟩:float.number),(⟨t40_0.class_,t40_0.sign,t40_0.m,t40_0.e⟩:float.number),false)
theorem Flt.two.j0.c_le (a2:Int) (b3:Int) (s8_0:Int) (s8_1:Int) (x9_0:Int) (x9_1:Int) (x9_2:Int) (x9_3:Int) (y10_0:Int) (y10_1:Int) (y10_2:Int) (y10_3:Int):Le (Flt.two.j0.c a2 b3 s8_0 s8_1 x9_0 x9_1 x9_2 x9_3 y10_0 y10_1 y10_2 y10_3) (Flt.two.j0 a2 b3 s8_0 s8_1 x9_0 x9_1 x9_2 x9_3 y10_0 y10_1 y10_2 y10_3):=by
  unfold Flt.two.j0.c Flt.two.j0
  repeat' (first | with_reducible refine Le.letkF (by first | rfl | simp only [Lib.toList_data]) (fun z=>?_) | with_reducible refine Le.chk ?_ | with_reducible refine Le.bif ?_ ?_ | with_reducible refine Le.map ?_ | with_reducible refine Le.loop (fun s=>?_) | with_reducible exact Flt.shape.read.c_le .. | with_reducible refine Le.bindF ?_ (fun z=>?_) | with_reducible exact Le.refl _ | (rcases z with ⟨_,_⟩; dsimp only))
noncomputable def Flt.two.j1.c (a2:Int) (b3:Int) (t15_0:float.shape) (t27:Bool):Option (float.shape × float.number × float.number × Bool) :=
  bif t27 then
    some ((⟨t15_0.p,t15_0.w⟩:float.shape),(⟨0,0,0,0⟩:float.number),(⟨0,0,0,0⟩:float.number),false)
  else
    Flt.two.j0.c a2 b3 t15_0.p t15_0.w 0 0 0 0 0 0 0 0
theorem Flt.two.j1.c_le (a2:Int) (b3:Int) (t15_0:float.shape) (t27:Bool):Le (Flt.two.j1.c a2 b3 t15_0 t27) (Flt.two.j1 a2 b3 t15_0 t27):=by
  unfold Flt.two.j1.c Flt.two.j1
  repeat' (first | with_reducible refine Le.letkF (by first | rfl | simp only [Lib.toList_data]) (fun z=>?_) | with_reducible refine Le.chk ?_ | with_reducible refine Le.bif ?_ ?_ | with_reducible refine Le.map ?_ | with_reducible refine Le.loop (fun s=>?_) | with_reducible exact Flt.two.j0.c_le .. | with_reducible refine Le.bindF ?_ (fun z=>?_) | with_reducible exact Le.refl _ | (rcases z with ⟨_,_⟩; dsimp only))
noncomputable def Flt.two.c (kind0:Int) (mode1:Int) (a2:Int) (b3:Int):Option (float.shape × float.number × float.number × Bool) :=
  bindF (Flt.of.c kind0) fun (t15_0,t15_1) =>
  letkF (!t15_1) fun t19 =>
  bif t19 then
    Flt.two.j1.c a2 b3 t15_0 true
  else
    letkF (decide (mode1 < (0:Int))) fun t22 =>
    bif t22 then
      Flt.two.j1.c a2 b3 t15_0 true
    else
      letkF (decide (mode1 ≥ (4:Int))) fun t26 =>
      Flt.two.j1.c a2 b3 t15_0 t26
theorem Flt.two.c_le (kind0:Int) (mode1:Int) (a2:Int) (b3:Int):Le (Flt.two.c kind0 mode1 a2 b3) (Flt.two kind0 mode1 a2 b3):=by
  unfold Flt.two.c Flt.two
  repeat' (first | with_reducible refine Le.letkF (by first | rfl | simp only [Lib.toList_data]) (fun z=>?_) | with_reducible refine Le.chk ?_ | with_reducible refine Le.bif ?_ ?_ | with_reducible refine Le.map ?_ | with_reducible refine Le.loop (fun s=>?_) | with_reducible exact Flt.of.c_le .. | with_reducible exact Flt.two.j1.c_le .. | with_reducible refine Le.bindF ?_ (fun z=>?_) | with_reducible exact Le.refl _ | (rcases z with ⟨_,_⟩; dsimp only))
noncomputable def Flt.Sub.c (kind0:Int) (mode1:Int) (a2:Int) (b3:Int):Option (Int × Int × Int):=none
theorem Flt.Sub.c_le (kind0:Int) (mode1:Int) (a2:Int) (b3:Int):Le (Flt.Sub.c kind0 mode1 a2 b3) (Flt.Sub kind0 mode1 a2 b3):=Le.none _
noncomputable def Dec.word.c (kind0:Int) (p1:decimal.parsed):Option Int :=
  bindF (Flt.Make.c kind0 0 p1.sign 1 2000) fun (t12_0,t12_1,t12_2) =>
  letkF (p1.word.data.toList == (⟨#[110,97,110]⟩:ByteArray).data.toList) fun t18 =>
  bif t18 then
    bindF (Flt.Sub.c kind0 0 t12_0 t12_0) fun (t23_0,t23_1,t23_2) =>
    some t23_0
  else
    some t12_0
theorem Dec.word.c_le (kind0:Int) (p1:decimal.parsed):Le (Dec.word.c kind0 p1) (Dec.word kind0 p1):=by
  unfold Dec.word.c Dec.word
  repeat' (first | with_reducible refine Le.letkF (by first | rfl | simp only [Lib.toList_data]) (fun z=>?_) | with_reducible refine Le.chk ?_ | with_reducible refine Le.bif ?_ ?_ | with_reducible refine Le.map ?_ | with_reducible refine Le.loop (fun s=>?_) | with_reducible exact Flt.Make.c_le .. | with_reducible exact Flt.Sub.c_le .. | with_reducible refine Le.bindF ?_ (fun z=>?_) | with_reducible exact Le.refl _ | (rcases z with ⟨_,_⟩; dsimp only))
noncomputable def Dec.big.trim.j0.c (b0_1:List Int):Option (((List Int)) ⊕ ((List Int))) :=
  letkF ((b0_1.length:Int)) fun t17 =>
  letkF (IntKind.i64.wrap (t17 - (1:Int))) fun t18 =>
  chkD (0 ≤ t18 ∧ t18 ≤ (b0_1.length:Int)) <|
  letkF ((b0_1.drop 0).take (t18.toNat - 0)) fun t19 =>
  some (.inl t19)
theorem Dec.big.trim.j0.c_le (b0_1:List Int):Le (Dec.big.trim.j0.c b0_1) (Dec.big.trim.j0 b0_1):=by
  unfold Dec.big.trim.j0.c Dec.big.trim.j0
  repeat' (first | with_reducible refine Le.letkF (by first | rfl | simp only [Lib.toList_data]) (fun z=>?_) | with_reducible refine Le.chk ?_ | with_reducible refine Le.bif ?_ ?_ | with_reducible refine Le.map ?_ | with_reducible refine Le.loop (fun s=>?_) | with_reducible refine Le.bindF ?_ (fun z=>?_) | with_reducible exact Le.refl _ | (rcases z with ⟨_,_⟩; dsimp only))
noncomputable def Dec.big.trim.s0.c (b0_1:List Int):Option (((List Int)) ⊕ ((List Int))) :=
  letkF ((b0_1.length:Int)) fun t4 =>
  letkF (decide (t4 > (0:Int))) fun t5 =>
  bif t5 then
    letkF ((b0_1.length:Int)) fun t9 =>
    letkF (IntKind.i64.wrap (t9 - (1:Int))) fun t10 =>
    chkD (0 ≤ t10) <|
    bindF (b0_1[t10.toNat]?) fun t11 =>
    letkF (t11 == (0:Int)) fun t13 =>
    bif t13 then
      Dec.big.trim.j0.c b0_1
    else
      some (.inr b0_1)
  else
    some (.inr b0_1)
theorem Dec.big.trim.s0.c_le (b0_1:List Int):Le (Dec.big.trim.s0.c b0_1) (Dec.big.trim.s0 b0_1):=by
  unfold Dec.big.trim.s0.c Dec.big.trim.s0
  repeat' (first | with_reducible refine Le.letkF (by first | rfl | simp only [Lib.toList_data]) (fun z=>?_) | with_reducible refine Le.chk ?_ | with_reducible refine Le.bif ?_ ?_ | with_reducible refine Le.map ?_ | with_reducible refine Le.loop (fun s=>?_) | with_reducible exact Dec.big.trim.j0.c_le .. | with_reducible refine Le.bindF ?_ (fun z=>?_) | with_reducible exact Le.refl _ | (rcases z with ⟨_,_⟩; dsimp only))
noncomputable def Dec.big.trim.l0.c (b0_1:List Int):Option ((List Int)):=iterO (fun v:(List Int)=>Dec.big.trim.s0.c v) 3000 b0_1
theorem Dec.big.trim.l0.c_le (b0_1:List Int):Le (Dec.big.trim.l0.c b0_1) (Dec.big.trim.l0 b0_1):=by
  unfold Dec.big.trim.l0.c Dec.big.trim.l0
  repeat' (first | with_reducible refine Le.letkF (by first | rfl | simp only [Lib.toList_data]) (fun z=>?_) | with_reducible refine Le.chk ?_ | with_reducible refine Le.bif ?_ ?_ | with_reducible refine Le.map ?_ | with_reducible refine Le.loop (fun s=>?_) | with_reducible exact Dec.big.trim.s0.c_le .. | with_reducible refine Le.bindF ?_ (fun z=>?_) | with_reducible exact Le.refl _ | (rcases z with ⟨_,_⟩; dsimp only))
noncomputable def Dec.big.trim.c (b0:List Int):Option ((List Int)) :=
  Dec.big.trim.l0.c b0
theorem Dec.big.trim.c_le (b0:List Int):Le (Dec.big.trim.c b0) (Dec.big.trim b0):=by
  unfold Dec.big.trim.c Dec.big.trim
  repeat' (first | with_reducible refine Le.letkF (by first | rfl | simp only [Lib.toList_data]) (fun z=>?_) | with_reducible refine Le.chk ?_ | with_reducible refine Le.bif ?_ ?_ | with_reducible refine Le.map ?_ | with_reducible refine Le.loop (fun s=>?_) | with_reducible exact Dec.big.trim.l0.c_le .. | with_reducible refine Le.bindF ?_ (fun z=>?_) | with_reducible exact Le.refl _ | (rcases z with ⟨_,_⟩; dsimp only))
noncomputable def Dec.whole.s0.c (digits0:ByteArray) (out3:List Int) (end4:Int):Option (((List Int) × Int) ⊕ ((List Int))) :=
  letkF (decide (end4 > (0:Int))) fun t10 =>
  bif t10 then
    letkF (IntKind.i64.wrap (end4 - (9:Int))) fun t16 =>
    letkF (if t16 > 0 then t16 else 0) fun t17 =>
    chkD (0 ≤ t17 ∧ t17 ≤ end4 ∧ end4 ≤ (digits0.size:Int)) <|
    letkF (digits0.extract t17.toNat end4.toNat) fun t19 =>
    bindF (Strconv.Atoi.c t19) fun (t20_0,t20_1) =>
    chkD ((out3.length + ([t20_0]).length) * 8 ≤ 140737488355328) <|
    letkF (out3 ++ ([t20_0])) fun t26 =>
    letkF (IntKind.i64.wrap (end4 - (9:Int))) fun t12 =>
    some (.inl (t26,t12))
  else
    ((
    bindF (Dec.big.trim.c out3) fun t28 =>
    some t28)).map .inr
theorem Dec.whole.s0.c_le (digits0:ByteArray) (out3:List Int) (end4:Int):Le (Dec.whole.s0.c digits0 out3 end4) (Dec.whole.s0 digits0 out3 end4):=by
  unfold Dec.whole.s0.c Dec.whole.s0
  repeat' (first | with_reducible refine Le.letkF (by first | rfl | simp only [Lib.toList_data]) (fun z=>?_) | with_reducible refine Le.chk ?_ | with_reducible refine Le.bif ?_ ?_ | with_reducible refine Le.map ?_ | with_reducible refine Le.loop (fun s=>?_) | with_reducible exact Dec.big.trim.c_le .. | with_reducible exact Strconv.Atoi.c_le .. | with_reducible refine Le.bindF ?_ (fun z=>?_) | with_reducible exact Le.refl _ | (rcases z with ⟨_,_⟩; dsimp only))
noncomputable def Dec.whole.l0.c (digits0:ByteArray) (out3:List Int) (end4:Int):Option ((List Int)):=iterO (fun v:(List Int) × Int=>Dec.whole.s0.c digits0 v.1 v.2) 3000 (out3,end4)
theorem Dec.whole.l0.c_le (digits0:ByteArray) (out3:List Int) (end4:Int):Le (Dec.whole.l0.c digits0 out3 end4) (Dec.whole.l0 digits0 out3 end4):=by
  unfold Dec.whole.l0.c Dec.whole.l0
  repeat' (first | with_reducible refine Le.letkF (by first | rfl | simp only [Lib.toList_data]) (fun z=>?_) | with_reducible refine Le.chk ?_ | with_reducible refine Le.bif ?_ ?_ | with_reducible refine Le.map ?_ | with_reducible refine Le.loop (fun s=>?_) | with_reducible exact Dec.whole.s0.c_le .. | with_reducible refine Le.bindF ?_ (fun z=>?_) | with_reducible exact Le.refl _ | (rcases z with ⟨_,_⟩; dsimp only))
noncomputable def Dec.whole.c (digits0:ByteArray):Option ((List Int)) :=
  letkF ((digits0.size:Int)) fun t8 =>
  Dec.whole.l0.c digits0 ([]) t8
theorem Dec.whole.c_le (digits0:ByteArray):Le (Dec.whole.c digits0) (Dec.whole digits0):=by
  unfold Dec.whole.c Dec.whole
  repeat' (first | with_reducible refine Le.letkF (by first | rfl | simp only [Lib.toList_data]) (fun z=>?_) | with_reducible refine Le.chk ?_ | with_reducible refine Le.bif ?_ ?_ | with_reducible refine Le.map ?_ | with_reducible refine Le.loop (fun s=>?_) | with_reducible exact Dec.whole.l0.c_le .. | with_reducible refine Le.bindF ?_ (fun z=>?_) | with_reducible exact Le.refl _ | (rcases z with ⟨_,_⟩; dsimp only))
noncomputable def Dec.big.times.s1.c (out5_1:List Int) (carry6_1:Int):Option (((List Int) × Int) ⊕ ((List Int))) :=
  letkF (decide (carry6_1 > (0:Int))) fun t29 =>
  bif t29 then
    chkD ((1000000000:Int) ≠ 0) <|
    letkF (carry6_1.tmod (1000000000:Int)) fun t32 =>
    chkD ((out5_1.length + ([t32]).length) * 8 ≤ 140737488355328) <|
    letkF (out5_1 ++ ([t32])) fun t34 =>
    chkD ((1000000000:Int) ≠ 0) <|
    letkF (IntKind.i64.wrap (carry6_1.tdiv (1000000000:Int))) fun t36 =>
    some (.inl (t34,t36))
  else
    ((
    bindF (Dec.big.trim.c out5_1) fun t38 =>
    some t38)).map .inr
theorem Dec.big.times.s1.c_le (out5_1:List Int) (carry6_1:Int):Le (Dec.big.times.s1.c out5_1 carry6_1) (Dec.big.times.s1 out5_1 carry6_1):=by
  unfold Dec.big.times.s1.c Dec.big.times.s1
  repeat' (first | with_reducible refine Le.letkF (by first | rfl | simp only [Lib.toList_data]) (fun z=>?_) | with_reducible refine Le.chk ?_ | with_reducible refine Le.bif ?_ ?_ | with_reducible refine Le.map ?_ | with_reducible refine Le.loop (fun s=>?_) | with_reducible exact Dec.big.trim.c_le .. | with_reducible refine Le.bindF ?_ (fun z=>?_) | with_reducible exact Le.refl _ | (rcases z with ⟨_,_⟩; dsimp only))
noncomputable def Dec.big.times.l1.c (out5_1:List Int) (carry6_1:Int):Option ((List Int)):=iterO (fun v:(List Int) × Int=>Dec.big.times.s1.c v.1 v.2) 3000 (out5_1,carry6_1)
theorem Dec.big.times.l1.c_le (out5_1:List Int) (carry6_1:Int):Le (Dec.big.times.l1.c out5_1 carry6_1) (Dec.big.times.l1 out5_1 carry6_1):=by
  unfold Dec.big.times.l1.c Dec.big.times.l1
  repeat' (first | with_reducible refine Le.letkF (by first | rfl | simp only [Lib.toList_data]) (fun z=>?_) | with_reducible refine Le.chk ?_ | with_reducible refine Le.bif ?_ ?_ | with_reducible refine Le.map ?_ | with_reducible refine Le.loop (fun s=>?_) | with_reducible exact Dec.big.times.s1.c_le .. | with_reducible refine Le.bindF ?_ (fun z=>?_) | with_reducible exact Le.refl _ | (rcases z with ⟨_,_⟩; dsimp only))
noncomputable def Dec.big.times.s0.c (b0:List Int) (n1:Int) (t10:Int) (out5:List Int) (carry6:Int) (t11:Int):Option (((List Int) × Int × Int) ⊕ ((List Int))) :=
  letkF (decide (t11 < t10)) fun t12 =>
  bif t12 then
    chkD (0 ≤ t11) <|
    bindF (b0[t11.toNat]?) fun t13 =>
    letkF (IntKind.i64.wrap (t13 * n1)) fun t17 =>
    letkF (IntKind.i64.wrap (t17 + carry6)) fun t19 =>
    chkD ((1000000000:Int) ≠ 0) <|
    letkF (t19.tmod (1000000000:Int)) fun t22 =>
    chkD ((out5.length + ([t22]).length) * 8 ≤ 140737488355328) <|
    letkF (out5 ++ ([t22])) fun t24 =>
    chkD ((1000000000:Int) ≠ 0) <|
    letkF (IntKind.i64.wrap (t19.tdiv (1000000000:Int))) fun t26 =>
    letkF (IntKind.i64.wrap (t11 + (1:Int))) fun t27 =>
    some (.inl (t24,t26,t27))
  else
    (Dec.big.times.l1.c out5 carry6).map .inr
theorem Dec.big.times.s0.c_le (b0:List Int) (n1:Int) (t10:Int) (out5:List Int) (carry6:Int) (t11:Int):Le (Dec.big.times.s0.c b0 n1 t10 out5 carry6 t11) (Dec.big.times.s0 b0 n1 t10 out5 carry6 t11):=by
  unfold Dec.big.times.s0.c Dec.big.times.s0
  repeat' (first | with_reducible refine Le.letkF (by first | rfl | simp only [Lib.toList_data]) (fun z=>?_) | with_reducible refine Le.chk ?_ | with_reducible refine Le.bif ?_ ?_ | with_reducible refine Le.map ?_ | with_reducible refine Le.loop (fun s=>?_) | with_reducible exact Dec.big.times.l1.c_le .. | with_reducible refine Le.bindF ?_ (fun z=>?_) | with_reducible exact Le.refl _ | (rcases z with ⟨_,_⟩; dsimp only))
noncomputable def Dec.big.times.l0.c (b0:List Int) (n1:Int) (t10:Int) (out5:List Int) (carry6:Int) (t11:Int):Option ((List Int)):=iterO (fun v:(List Int) × Int × Int=>Dec.big.times.s0.c b0 n1 t10 v.1 v.2.1 v.2.2) 3000 (out5,carry6,t11)
theorem Dec.big.times.l0.c_le (b0:List Int) (n1:Int) (t10:Int) (out5:List Int) (carry6:Int) (t11:Int):Le (Dec.big.times.l0.c b0 n1 t10 out5 carry6 t11) (Dec.big.times.l0 b0 n1 t10 out5 carry6 t11):=by
  unfold Dec.big.times.l0.c Dec.big.times.l0
  repeat' (first | with_reducible refine Le.letkF (by first | rfl | simp only [Lib.toList_data]) (fun z=>?_) | with_reducible refine Le.chk ?_ | with_reducible refine Le.bif ?_ ?_ | with_reducible refine Le.map ?_ | with_reducible refine Le.loop (fun s=>?_) | with_reducible exact Dec.big.times.s0.c_le .. | with_reducible refine Le.bindF ?_ (fun z=>?_) | with_reducible exact Le.refl _ | (rcases z with ⟨_,_⟩; dsimp only))
noncomputable def Dec.big.times.c (b0:List Int) (n1:Int):Option ((List Int)) :=
  letkF ((b0.length:Int)) fun t10 =>
  Dec.big.times.l0.c b0 n1 t10 ([]) 0 0
theorem Dec.big.times.c_le (b0:List Int) (n1:Int):Le (Dec.big.times.c b0 n1) (Dec.big.times b0 n1):=by
  unfold Dec.big.times.c Dec.big.times
  repeat' (first | with_reducible refine Le.letkF (by first | rfl | simp only [Lib.toList_data]) (fun z=>?_) | with_reducible refine Le.chk ?_ | with_reducible refine Le.bif ?_ ?_ | with_reducible refine Le.map ?_ | with_reducible refine Le.loop (fun s=>?_) | with_reducible exact Dec.big.times.l0.c_le .. | with_reducible refine Le.bindF ?_ (fun z=>?_) | with_reducible exact Le.refl _ | (rcases z with ⟨_,_⟩; dsimp only))
noncomputable def Dec.big.power.s2.c (n1:Int) (b0_2:List Int) (k2_2:Int):Option (((List Int) × Int) ⊕ ((List Int))) :=
  letkF (decide (k2_2 > (0:Int))) fun t22 =>
  bif t22 then
    bindF (Dec.big.times.c b0_2 n1) fun t27 =>
    letkF (IntKind.i64.wrap (k2_2 - (1:Int))) fun t24 =>
    some (.inl (t27,t24))
  else
    some (.inr b0_2)
theorem Dec.big.power.s2.c_le (n1:Int) (b0_2:List Int) (k2_2:Int):Le (Dec.big.power.s2.c n1 b0_2 k2_2) (Dec.big.power.s2 n1 b0_2 k2_2):=by
  unfold Dec.big.power.s2.c Dec.big.power.s2
  repeat' (first | with_reducible refine Le.letkF (by first | rfl | simp only [Lib.toList_data]) (fun z=>?_) | with_reducible refine Le.chk ?_ | with_reducible refine Le.bif ?_ ?_ | with_reducible refine Le.map ?_ | with_reducible refine Le.loop (fun s=>?_) | with_reducible exact Dec.big.times.c_le .. | with_reducible refine Le.bindF ?_ (fun z=>?_) | with_reducible exact Le.refl _ | (rcases z with ⟨_,_⟩; dsimp only))
noncomputable def Dec.big.power.l2.c (n1:Int) (b0_2:List Int) (k2_2:Int):Option ((List Int)):=iterO (fun v:(List Int) × Int=>Dec.big.power.s2.c n1 v.1 v.2) 3000 (b0_2,k2_2)
theorem Dec.big.power.l2.c_le (n1:Int) (b0_2:List Int) (k2_2:Int):Le (Dec.big.power.l2.c n1 b0_2 k2_2) (Dec.big.power.l2 n1 b0_2 k2_2):=by
  unfold Dec.big.power.l2.c Dec.big.power.l2
  repeat' (first | with_reducible refine Le.letkF (by first | rfl | simp only [Lib.toList_data]) (fun z=>?_) | with_reducible refine Le.chk ?_ | with_reducible refine Le.bif ?_ ?_ | with_reducible refine Le.map ?_ | with_reducible refine Le.loop (fun s=>?_) | with_reducible exact Dec.big.power.s2.c_le .. | with_reducible refine Le.bindF ?_ (fun z=>?_) | with_reducible exact Le.refl _ | (rcases z with ⟨_,_⟩; dsimp only))
noncomputable def Dec.big.power.s1.c (n1:Int) (great7:Int) (b0_1:List Int) (k2_1:Int):Option (((List Int) × Int) ⊕ ((List Int))) :=
  letkF (decide (k2_1 ≥ (8:Int))) fun t15 =>
  bif t15 then
    bindF (Dec.big.times.c b0_1 great7) fun t20 =>
    letkF (IntKind.i64.wrap (k2_1 - (8:Int))) fun t17 =>
    some (.inl (t20,t17))
  else
    (Dec.big.power.l2.c n1 b0_1 k2_1).map .inr
theorem Dec.big.power.s1.c_le (n1:Int) (great7:Int) (b0_1:List Int) (k2_1:Int):Le (Dec.big.power.s1.c n1 great7 b0_1 k2_1) (Dec.big.power.s1 n1 great7 b0_1 k2_1):=by
  unfold Dec.big.power.s1.c Dec.big.power.s1
  repeat' (first | with_reducible refine Le.letkF (by first | rfl | simp only [Lib.toList_data]) (fun z=>?_) | with_reducible refine Le.chk ?_ | with_reducible refine Le.bif ?_ ?_ | with_reducible refine Le.map ?_ | with_reducible refine Le.loop (fun s=>?_) | with_reducible exact Dec.big.times.c_le .. | with_reducible exact Dec.big.power.l2.c_le .. | with_reducible refine Le.bindF ?_ (fun z=>?_) | with_reducible exact Le.refl _ | (rcases z with ⟨_,_⟩; dsimp only))
noncomputable def Dec.big.power.l1.c (n1:Int) (great7:Int) (b0_1:List Int) (k2_1:Int):Option ((List Int)):=iterO (fun v:(List Int) × Int=>Dec.big.power.s1.c n1 great7 v.1 v.2) 3000 (b0_1,k2_1)
theorem Dec.big.power.l1.c_le (n1:Int) (great7:Int) (b0_1:List Int) (k2_1:Int):Le (Dec.big.power.l1.c n1 great7 b0_1 k2_1) (Dec.big.power.l1 n1 great7 b0_1 k2_1):=by
  unfold Dec.big.power.l1.c Dec.big.power.l1
  repeat' (first | with_reducible refine Le.letkF (by first | rfl | simp only [Lib.toList_data]) (fun z=>?_) | with_reducible refine Le.chk ?_ | with_reducible refine Le.bif ?_ ?_ | with_reducible refine Le.map ?_ | with_reducible refine Le.loop (fun s=>?_) | with_reducible exact Dec.big.power.s1.c_le .. | with_reducible refine Le.bindF ?_ (fun z=>?_) | with_reducible exact Le.refl _ | (rcases z with ⟨_,_⟩; dsimp only))
noncomputable def Dec.big.power.s0.c (b0:List Int) (n1:Int) (k2:Int) (great7:Int) (t8:Int):Option ((Int × Int) ⊕ ((List Int))) :=
  letkF (decide (t8 < (8:Int))) fun t9 =>
  bif t9 then
    letkF (IntKind.i64.wrap (great7 * n1)) fun t12 =>
    letkF (IntKind.i64.wrap (t8 + (1:Int))) fun t13 =>
    some (.inl (t12,t13))
  else
    (Dec.big.power.l1.c n1 great7 b0 k2).map .inr
theorem Dec.big.power.s0.c_le (b0:List Int) (n1:Int) (k2:Int) (great7:Int) (t8:Int):Le (Dec.big.power.s0.c b0 n1 k2 great7 t8) (Dec.big.power.s0 b0 n1 k2 great7 t8):=by
  unfold Dec.big.power.s0.c Dec.big.power.s0
  repeat' (first | with_reducible refine Le.letkF (by first | rfl | simp only [Lib.toList_data]) (fun z=>?_) | with_reducible refine Le.chk ?_ | with_reducible refine Le.bif ?_ ?_ | with_reducible refine Le.map ?_ | with_reducible refine Le.loop (fun s=>?_) | with_reducible exact Dec.big.power.l1.c_le .. | with_reducible refine Le.bindF ?_ (fun z=>?_) | with_reducible exact Le.refl _ | (rcases z with ⟨_,_⟩; dsimp only))
noncomputable def Dec.big.power.l0.c (b0:List Int) (n1:Int) (k2:Int) (great7:Int) (t8:Int):Option ((List Int)):=iterO (fun v:Int × Int=>Dec.big.power.s0.c b0 n1 k2 v.1 v.2) 3000 (great7,t8)
theorem Dec.big.power.l0.c_le (b0:List Int) (n1:Int) (k2:Int) (great7:Int) (t8:Int):Le (Dec.big.power.l0.c b0 n1 k2 great7 t8) (Dec.big.power.l0 b0 n1 k2 great7 t8):=by
  unfold Dec.big.power.l0.c Dec.big.power.l0
  repeat' (first | with_reducible refine Le.letkF (by first | rfl | simp only [Lib.toList_data]) (fun z=>?_) | with_reducible refine Le.chk ?_ | with_reducible refine Le.bif ?_ ?_ | with_reducible refine Le.map ?_ | with_reducible refine Le.loop (fun s=>?_) | with_reducible exact Dec.big.power.s0.c_le .. | with_reducible refine Le.bindF ?_ (fun z=>?_) | with_reducible exact Le.refl _ | (rcases z with ⟨_,_⟩; dsimp only))
noncomputable def Dec.big.power.c (b0:List Int) (n1:Int) (k2:Int):Option ((List Int)) :=
  Dec.big.power.l0.c b0 n1 k2 1 0
theorem Dec.big.power.c_le (b0:List Int) (n1:Int) (k2:Int):Le (Dec.big.power.c b0 n1 k2) (Dec.big.power b0 n1 k2):=by
  unfold Dec.big.power.c Dec.big.power
  repeat' (first | with_reducible refine Le.letkF (by first | rfl | simp only [Lib.toList_data]) (fun z=>?_) | with_reducible refine Le.chk ?_ | with_reducible refine Le.bif ?_ ?_ | with_reducible refine Le.map ?_ | with_reducible refine Le.loop (fun s=>?_) | with_reducible exact Dec.big.power.l0.c_le .. | with_reducible refine Le.bindF ?_ (fun z=>?_) | with_reducible exact Le.refl _ | (rcases z with ⟨_,_⟩; dsimp only))
noncomputable def Dec.big.compare.s0.c (b0:List Int) (c1:List Int) (i5:Int):Option (Int ⊕ Int) :=
  letkF (decide (i5 ≥ (0:Int))) fun t20 =>
  bif t20 then
    chkD (0 ≤ i5) <|
    bindF (b0[i5.toNat]?) fun t25 =>
    chkD (0 ≤ i5) <|
    bindF (c1[i5.toNat]?) fun t29 =>
    letkF (t25 != t29) fun t31 =>
    bif t31 then
      chkD (0 ≤ i5) <|
      bindF (b0[i5.toNat]?) fun t34 =>
      chkD (0 ≤ i5) <|
      bindF (c1[i5.toNat]?) fun t38 =>
      letkF (IntKind.i64.wrap (t34 - t38)) fun t40 =>
      some (.inr t40)
    else
      letkF (IntKind.i64.wrap (i5 - (1:Int))) fun t22 =>
      some (.inl t22)
  else
    some (.inr 0)
theorem Dec.big.compare.s0.c_le (b0:List Int) (c1:List Int) (i5:Int):Le (Dec.big.compare.s0.c b0 c1 i5) (Dec.big.compare.s0 b0 c1 i5):=by
  unfold Dec.big.compare.s0.c Dec.big.compare.s0
  repeat' (first | with_reducible refine Le.letkF (by first | rfl | simp only [Lib.toList_data]) (fun z=>?_) | with_reducible refine Le.chk ?_ | with_reducible refine Le.bif ?_ ?_ | with_reducible refine Le.map ?_ | with_reducible refine Le.loop (fun s=>?_) | with_reducible refine Le.bindF ?_ (fun z=>?_) | with_reducible exact Le.refl _ | (rcases z with ⟨_,_⟩; dsimp only))
noncomputable def Dec.big.compare.l0.c (b0:List Int) (c1:List Int) (i5:Int):Option Int:=iterO (fun v:Int=>Dec.big.compare.s0.c b0 c1 v) 3000 i5
theorem Dec.big.compare.l0.c_le (b0:List Int) (c1:List Int) (i5:Int):Le (Dec.big.compare.l0.c b0 c1 i5) (Dec.big.compare.l0 b0 c1 i5):=by
  unfold Dec.big.compare.l0.c Dec.big.compare.l0
  repeat' (first | with_reducible refine Le.letkF (by first | rfl | simp only [Lib.toList_data]) (fun z=>?_) | with_reducible refine Le.chk ?_ | with_reducible refine Le.bif ?_ ?_ | with_reducible refine Le.map ?_ | with_reducible refine Le.loop (fun s=>?_) | with_reducible exact Dec.big.compare.s0.c_le .. | with_reducible refine Le.bindF ?_ (fun z=>?_) | with_reducible exact Le.refl _ | (rcases z with ⟨_,_⟩; dsimp only))
noncomputable def Dec.big.compare.c (b0:List Int) (c1:List Int):Option Int :=
  letkF ((b0.length:Int)) fun t7 =>
  letkF ((c1.length:Int)) fun t9 =>
  letkF (t7 != t9) fun t10 =>
  bif t10 then
    letkF ((b0.length:Int)) fun t12 =>
    letkF ((c1.length:Int)) fun t14 =>
    letkF (IntKind.i64.wrap (t12 - t14)) fun t15 =>
    some t15
  else
    letkF ((b0.length:Int)) fun t17 =>
    letkF (IntKind.i64.wrap (t17 - (1:Int))) fun t18 =>
    Dec.big.compare.l0.c b0 c1 t18
theorem Dec.big.compare.c_le (b0:List Int) (c1:List Int):Le (Dec.big.compare.c b0 c1) (Dec.big.compare b0 c1):=by
  unfold Dec.big.compare.c Dec.big.compare
  repeat' (first | with_reducible refine Le.letkF (by first | rfl | simp only [Lib.toList_data]) (fun z=>?_) | with_reducible refine Le.chk ?_ | with_reducible refine Le.bif ?_ ?_ | with_reducible refine Le.map ?_ | with_reducible refine Le.loop (fun s=>?_) | with_reducible exact Dec.big.compare.l0.c_le .. | with_reducible refine Le.bindF ?_ (fun z=>?_) | with_reducible exact Le.refl _ | (rcases z with ⟨_,_⟩; dsimp only))
noncomputable def Dec.big.less.j0.c (b0:List Int) (c1:List Int) (t10:Int) (t11:Int) (out5_1:List Int) (x8:Int):Option (((List Int) × Int × Int) ⊕ ((List Int))) :=
  letkF (decide (x8 < (0:Int))) fun t30 =>
  bif t30 then
    letkF (IntKind.i64.wrap (x8 + (1000000000:Int))) fun t32 =>
    chkD ((out5_1.length + ([t32]).length) * 8 ≤ 140737488355328) <|
    letkF (out5_1 ++ ([t32])) fun t36_1 =>
    letkF (IntKind.i64.wrap (t11 + (1:Int))) fun t37_1 =>
    some (.inl (t36_1,1,t37_1))
  else
    chkD ((out5_1.length + ([x8]).length) * 8 ≤ 140737488355328) <|
    letkF (out5_1 ++ ([x8])) fun t36 =>
    letkF (IntKind.i64.wrap (t11 + (1:Int))) fun t37 =>
    some (.inl (t36,0,t37))
theorem Dec.big.less.j0.c_le (b0:List Int) (c1:List Int) (t10:Int) (t11:Int) (out5_1:List Int) (x8:Int):Le (Dec.big.less.j0.c b0 c1 t10 t11 out5_1 x8) (Dec.big.less.j0 b0 c1 t10 t11 out5_1 x8):=by
  unfold Dec.big.less.j0.c Dec.big.less.j0
  repeat' (first | with_reducible refine Le.letkF (by first | rfl | simp only [Lib.toList_data]) (fun z=>?_) | with_reducible refine Le.chk ?_ | with_reducible refine Le.bif ?_ ?_ | with_reducible refine Le.map ?_ | with_reducible refine Le.loop (fun s=>?_) | with_reducible refine Le.bindF ?_ (fun z=>?_) | with_reducible exact Le.refl _ | (rcases z with ⟨_,_⟩; dsimp only))
noncomputable def Dec.big.less.s0.c (b0:List Int) (c1:List Int) (t10:Int) (out5:List Int) (borrow6:Int) (t11:Int):Option (((List Int) × Int × Int) ⊕ ((List Int))) :=
  letkF (decide (t11 < t10)) fun t12 =>
  bif t12 then
    chkD (0 ≤ t11) <|
    bindF (b0[t11.toNat]?) fun t14 =>
    letkF (IntKind.i64.wrap (t14 - borrow6)) fun t18 =>
    letkF ((c1.length:Int)) fun t21 =>
    letkF (decide (t11 < t21)) fun t22 =>
    bif t22 then
      chkD (0 ≤ t11) <|
      bindF (c1[t11.toNat]?) fun t26 =>
      letkF (IntKind.i64.wrap (t18 - t26)) fun t28 =>
      Dec.big.less.j0.c b0 c1 t10 t11 out5 t28
    else
      Dec.big.less.j0.c b0 c1 t10 t11 out5 t18
  else
    ((
    bindF (Dec.big.trim.c out5) fun t39 =>
    some t39)).map .inr
theorem Dec.big.less.s0.c_le (b0:List Int) (c1:List Int) (t10:Int) (out5:List Int) (borrow6:Int) (t11:Int):Le (Dec.big.less.s0.c b0 c1 t10 out5 borrow6 t11) (Dec.big.less.s0 b0 c1 t10 out5 borrow6 t11):=by
  unfold Dec.big.less.s0.c Dec.big.less.s0
  repeat' (first | with_reducible refine Le.letkF (by first | rfl | simp only [Lib.toList_data]) (fun z=>?_) | with_reducible refine Le.chk ?_ | with_reducible refine Le.bif ?_ ?_ | with_reducible refine Le.map ?_ | with_reducible refine Le.loop (fun s=>?_) | with_reducible exact Dec.big.trim.c_le .. | with_reducible exact Dec.big.less.j0.c_le .. | with_reducible refine Le.bindF ?_ (fun z=>?_) | with_reducible exact Le.refl _ | (rcases z with ⟨_,_⟩; dsimp only))
noncomputable def Dec.big.less.l0.c (b0:List Int) (c1:List Int) (t10:Int) (out5:List Int) (borrow6:Int) (t11:Int):Option ((List Int)):=iterO (fun v:(List Int) × Int × Int=>Dec.big.less.s0.c b0 c1 t10 v.1 v.2.1 v.2.2) 3000 (out5,borrow6,t11)
theorem Dec.big.less.l0.c_le (b0:List Int) (c1:List Int) (t10:Int) (out5:List Int) (borrow6:Int) (t11:Int):Le (Dec.big.less.l0.c b0 c1 t10 out5 borrow6 t11) (Dec.big.less.l0 b0 c1 t10 out5 borrow6 t11):=by
  unfold Dec.big.less.l0.c Dec.big.less.l0
  repeat' (first | with_reducible refine Le.letkF (by first | rfl | simp only [Lib.toList_data]) (fun z=>?_) | with_reducible refine Le.chk ?_ | with_reducible refine Le.bif ?_ ?_ | with_reducible refine Le.map ?_ | with_reducible refine Le.loop (fun s=>?_) | with_reducible exact Dec.big.less.s0.c_le .. | with_reducible refine Le.bindF ?_ (fun z=>?_) | with_reducible exact Le.refl _ | (rcases z with ⟨_,_⟩; dsimp only))
noncomputable def Dec.big.less.c (b0:List Int) (c1:List Int):Option ((List Int)) :=
  letkF ((b0.length:Int)) fun t10 =>
  Dec.big.less.l0.c b0 c1 t10 ([]) 0 0
theorem Dec.big.less.c_le (b0:List Int) (c1:List Int):Le (Dec.big.less.c b0 c1) (Dec.big.less b0 c1):=by
  unfold Dec.big.less.c Dec.big.less
  repeat' (first | with_reducible refine Le.letkF (by first | rfl | simp only [Lib.toList_data]) (fun z=>?_) | with_reducible refine Le.chk ?_ | with_reducible refine Le.bif ?_ ?_ | with_reducible refine Le.map ?_ | with_reducible refine Le.loop (fun s=>?_) | with_reducible exact Dec.big.less.l0.c_le .. | with_reducible refine Le.bindF ?_ (fun z=>?_) | with_reducible exact Le.refl _ | (rcases z with ⟨_,_⟩; dsimp only))
noncomputable def Dec.quotient.s2.c (c1_1:List Int) (e5_1:Int) (b0_2:List Int) (m4:Int) (i8:Int):Option (((List Int) × Int × Int) ⊕ (Int × Int × Bool)) :=
  letkF (decide (i8 ≥ (0:Int))) fun t32 =>
  bif t32 then
    bindF (Dec.big.power.c c1_1 2 i8) fun t37 =>
    bindF (Dec.big.compare.c b0_2 t37) fun t40 =>
    letkF (decide (t40 ≥ (0:Int))) fun t41 =>
    bif t41 then
      bindF (Dec.big.less.c b0_2 t37) fun t44 =>
      chkD (0 ≤ i8) <|
      letkF (IntKind.i64.wrap ((1:Int) * 2 ^ (min i8.toNat (IntKind.i64).bits))) fun t47 =>
      letkF (IntKind.i64.wrap (BitVec.ofInt (IntKind.i64).bits m4 ||| BitVec.ofInt (IntKind.i64).bits t47).toNat) fun t48 =>
      letkF (IntKind.i64.wrap (i8 - (1:Int))) fun t34_1 =>
      some (.inl (t44,t48,t34_1))
    else
      letkF (IntKind.i64.wrap (i8 - (1:Int))) fun t34 =>
      some (.inl (b0_2,m4,t34))
  else
    ((
    letkF ((b0_2.length:Int)) fun t52 =>
    letkF (decide (t52 > (0:Int))) fun t53 =>
    some (m4,e5_1,t53))).map .inr
theorem Dec.quotient.s2.c_le (c1_1:List Int) (e5_1:Int) (b0_2:List Int) (m4:Int) (i8:Int):Le (Dec.quotient.s2.c c1_1 e5_1 b0_2 m4 i8) (Dec.quotient.s2 c1_1 e5_1 b0_2 m4 i8):=by
  unfold Dec.quotient.s2.c Dec.quotient.s2
  repeat' (first | with_reducible refine Le.letkF (by first | rfl | simp only [Lib.toList_data]) (fun z=>?_) | with_reducible refine Le.chk ?_ | with_reducible refine Le.bif ?_ ?_ | with_reducible refine Le.map ?_ | with_reducible refine Le.loop (fun s=>?_) | with_reducible exact Dec.big.power.c_le .. | with_reducible exact Dec.big.compare.c_le .. | with_reducible exact Dec.big.less.c_le .. | with_reducible refine Le.bindF ?_ (fun z=>?_) | with_reducible exact Le.refl _ | (rcases z with ⟨_,_⟩; dsimp only))
noncomputable def Dec.quotient.l2.c (c1_1:List Int) (e5_1:Int) (b0_2:List Int) (m4:Int) (i8:Int):Option (Int × Int × Bool):=iterO (fun v:(List Int) × Int × Int=>Dec.quotient.s2.c c1_1 e5_1 v.1 v.2.1 v.2.2) 3000 (b0_2,m4,i8)
theorem Dec.quotient.l2.c_le (c1_1:List Int) (e5_1:Int) (b0_2:List Int) (m4:Int) (i8:Int):Le (Dec.quotient.l2.c c1_1 e5_1 b0_2 m4 i8) (Dec.quotient.l2 c1_1 e5_1 b0_2 m4 i8):=by
  unfold Dec.quotient.l2.c Dec.quotient.l2
  repeat' (first | with_reducible refine Le.letkF (by first | rfl | simp only [Lib.toList_data]) (fun z=>?_) | with_reducible refine Le.chk ?_ | with_reducible refine Le.bif ?_ ?_ | with_reducible refine Le.map ?_ | with_reducible refine Le.loop (fun s=>?_) | with_reducible exact Dec.quotient.s2.c_le .. | with_reducible refine Le.bindF ?_ (fun z=>?_) | with_reducible exact Le.refl _ | (rcases z with ⟨_,_⟩; dsimp only))
noncomputable def Dec.quotient.s1.c (b0_1:List Int) (c1_1:List Int) (e5_1:Int) (low7:List Int):Option (((List Int) × Int × (List Int)) ⊕ (Int × Int × Bool)) :=
  bindF (Dec.big.times.c low7 4) fun t22 =>
  bindF (Dec.big.compare.c b0_1 t22) fun t23 =>
  letkF (decide (t23 ≥ (0:Int))) fun t24 =>
  bif t24 then
    bindF (Dec.big.times.c c1_1 2) fun t26 =>
    bindF (Dec.big.times.c low7 2) fun t28 =>
    letkF (IntKind.i64.wrap (e5_1 + (1:Int))) fun t30 =>
    some (.inl (t26,t30,t28))
  else
    (Dec.quotient.l2.c c1_1 e5_1 b0_1 0 61).map .inr
theorem Dec.quotient.s1.c_le (b0_1:List Int) (c1_1:List Int) (e5_1:Int) (low7:List Int):Le (Dec.quotient.s1.c b0_1 c1_1 e5_1 low7) (Dec.quotient.s1 b0_1 c1_1 e5_1 low7):=by
  unfold Dec.quotient.s1.c Dec.quotient.s1
  repeat' (first | with_reducible refine Le.letkF (by first | rfl | simp only [Lib.toList_data]) (fun z=>?_) | with_reducible refine Le.chk ?_ | with_reducible refine Le.bif ?_ ?_ | with_reducible refine Le.map ?_ | with_reducible refine Le.loop (fun s=>?_) | with_reducible exact Dec.big.times.c_le .. | with_reducible exact Dec.big.compare.c_le .. | with_reducible exact Dec.quotient.l2.c_le .. | with_reducible refine Le.bindF ?_ (fun z=>?_) | with_reducible exact Le.refl _ | (rcases z with ⟨_,_⟩; dsimp only))
noncomputable def Dec.quotient.l1.c (b0_1:List Int) (c1_1:List Int) (e5_1:Int) (low7:List Int):Option (Int × Int × Bool):=iterO (fun v:(List Int) × Int × (List Int)=>Dec.quotient.s1.c b0_1 v.1 v.2.1 v.2.2) 3000 (c1_1,e5_1,low7)
theorem Dec.quotient.l1.c_le (b0_1:List Int) (c1_1:List Int) (e5_1:Int) (low7:List Int):Le (Dec.quotient.l1.c b0_1 c1_1 e5_1 low7) (Dec.quotient.l1 b0_1 c1_1 e5_1 low7):=by
  unfold Dec.quotient.l1.c Dec.quotient.l1
  repeat' (first | with_reducible refine Le.letkF (by first | rfl | simp only [Lib.toList_data]) (fun z=>?_) | with_reducible refine Le.chk ?_ | with_reducible refine Le.bif ?_ ?_ | with_reducible refine Le.map ?_ | with_reducible refine Le.loop (fun s=>?_) | with_reducible exact Dec.quotient.s1.c_le .. | with_reducible refine Le.bindF ?_ (fun z=>?_) | with_reducible exact Le.refl _ | (rcases z with ⟨_,_⟩; dsimp only))
noncomputable def Dec.quotient.s0.c (c1:List Int) (t11:(List Int)) (b0_1:List Int) (e5:Int):Option (((List Int) × Int) ⊕ (Int × Int × Bool)) :=
  bindF (Dec.big.compare.c b0_1 t11) fun t14 =>
  letkF (decide (t14 < (0:Int))) fun t15 =>
  bif t15 then
    bindF (Dec.big.times.c b0_1 2) fun t17 =>
    letkF (IntKind.i64.wrap (e5 - (1:Int))) fun t19 =>
    some (.inl (t17,t19))
  else
    (Dec.quotient.l1.c b0_1 c1 e5 t11).map .inr
theorem Dec.quotient.s0.c_le (c1:List Int) (t11:(List Int)) (b0_1:List Int) (e5:Int):Le (Dec.quotient.s0.c c1 t11 b0_1 e5) (Dec.quotient.s0 c1 t11 b0_1 e5):=by
  unfold Dec.quotient.s0.c Dec.quotient.s0
  repeat' (first | with_reducible refine Le.letkF (by first | rfl | simp only [Lib.toList_data]) (fun z=>?_) | with_reducible refine Le.chk ?_ | with_reducible refine Le.bif ?_ ?_ | with_reducible refine Le.map ?_ | with_reducible refine Le.loop (fun s=>?_) | with_reducible exact Dec.big.times.c_le .. | with_reducible exact Dec.big.compare.c_le .. | with_reducible exact Dec.quotient.l1.c_le .. | with_reducible refine Le.bindF ?_ (fun z=>?_) | with_reducible exact Le.refl _ | (rcases z with ⟨_,_⟩; dsimp only))
noncomputable def Dec.quotient.l0.c (c1:List Int) (t11:(List Int)) (b0_1:List Int) (e5:Int):Option (Int × Int × Bool):=iterO (fun v:(List Int) × Int=>Dec.quotient.s0.c c1 t11 v.1 v.2) 3000 (b0_1,e5)
theorem Dec.quotient.l0.c_le (c1:List Int) (t11:(List Int)) (b0_1:List Int) (e5:Int):Le (Dec.quotient.l0.c c1 t11 b0_1 e5) (Dec.quotient.l0 c1 t11 b0_1 e5):=by
  unfold Dec.quotient.l0.c Dec.quotient.l0
  repeat' (first | with_reducible refine Le.letkF (by first | rfl | simp only [Lib.toList_data]) (fun z=>?_) | with_reducible refine Le.chk ?_ | with_reducible refine Le.bif ?_ ?_ | with_reducible refine Le.map ?_ | with_reducible refine Le.loop (fun s=>?_) | with_reducible exact Dec.quotient.s0.c_le .. | with_reducible refine Le.bindF ?_ (fun z=>?_) | with_reducible exact Le.refl _ | (rcases z with ⟨_,_⟩; dsimp only))
noncomputable def Dec.quotient.c (b0:List Int) (c1:List Int):Option (Int × Int × Bool) :=
  bindF (Dec.big.power.c c1 2 60) fun t11 =>
  Dec.quotient.l0.c c1 t11 b0 0
theorem Dec.quotient.c_le (b0:List Int) (c1:List Int):Le (Dec.quotient.c b0 c1) (Dec.quotient b0 c1):=by
  unfold Dec.quotient.c Dec.quotient
  repeat' (first | with_reducible refine Le.letkF (by first | rfl | simp only [Lib.toList_data]) (fun z=>?_) | with_reducible refine Le.chk ?_ | with_reducible refine Le.bif ?_ ?_ | with_reducible refine Le.map ?_ | with_reducible refine Le.loop (fun s=>?_) | with_reducible exact Dec.big.power.c_le .. | with_reducible exact Dec.quotient.l0.c_le .. | with_reducible refine Le.bindF ?_ (fun z=>?_) | with_reducible exact Le.refl _ | (rcases z with ⟨_,_⟩; dsimp only))
noncomputable def Dec.round.j0.c (kind0:Int) (mode1:Int) (sign2:Int) (b14:List Int) (c15:List Int):Option (Int × Int × Int) :=
  bindF (Dec.quotient.c b14 c15) fun (t77_0,t77_1,t77_2) =>
  letkF (IntKind.i64.wrap (t77_0 * (2:Int))) fun t82 =>
  bif t77_2 then
    letkF (IntKind.i64.wrap (t82 + (1:Int))) fun t85 =>
    letkF (IntKind.i64.wrap (t77_1 - (1:Int))) fun t91_1 =>
    bindF (Flt.Make.c kind0 mode1 sign2 t85 t91_1) fun (t92_3_0,t92_3_1,t92_3_2) =>
    some (t92_3_0,t92_3_1,t92_3_2)
  else
    letkF (IntKind.i64.wrap (t77_1 - (1:Int))) fun t91 =>
    bindF (Flt.Make.c kind0 mode1 sign2 t82 t91) fun (t92_0,t92_1,t92_2) =>
    some (t92_0,t92_1,t92_2)
theorem Dec.round.j0.c_le (kind0:Int) (mode1:Int) (sign2:Int) (b14:List Int) (c15:List Int):Le (Dec.round.j0.c kind0 mode1 sign2 b14 c15) (Dec.round.j0 kind0 mode1 sign2 b14 c15):=by
  unfold Dec.round.j0.c Dec.round.j0
  repeat' (first | with_reducible refine Le.letkF (by first | rfl | simp only [Lib.toList_data]) (fun z=>?_) | with_reducible refine Le.chk ?_ | with_reducible refine Le.bif ?_ ?_ | with_reducible refine Le.map ?_ | with_reducible refine Le.loop (fun s=>?_) | with_reducible exact Flt.Make.c_le .. | with_reducible exact Dec.quotient.c_le .. | with_reducible refine Le.bindF ?_ (fun z=>?_) | with_reducible exact Le.refl _ | (rcases z with ⟨_,_⟩; dsimp only))
noncomputable def Dec.round.c (kind0:Int) (mode1:Int) (sign2:Int) (digits3:ByteArray) (x4:Int):Option (Int × Int × Int) :=
  bindF (Strs.TrimLeft.c digits3 ⟨#[48]⟩) fun t20 =>
  letkF ((digits3.size:Int)) fun t23 =>
  letkF ((t20.size:Int)) fun t25 =>
  letkF (IntKind.i64.wrap (t23 - t25)) fun t26 =>
  letkF (IntKind.i64.wrap (x4 - t26)) fun t27 =>
  letkF (t20.data.toList == (⟨#[]⟩:ByteArray).data.toList) fun t30 =>
  bif t30 then
    bindF (Flt.Make.c kind0 mode1 sign2 0 0) fun (t34_0,t34_1,t34_2) =>
    some (t34_0,t34_1,t34_2)
  else
    letkF (decide (t27 > (400:Int))) fun t40 =>
    bif t40 then
      bindF (Flt.Make.c kind0 mode1 sign2 1 2000) fun (t44_0,t44_1,t44_2) =>
      some (t44_0,t44_1,t44_2)
    else
      letkF (decide (t27 < ((-400):Int))) fun t50 =>
      bif t50 then
        bindF (Flt.Make.c kind0 mode1 sign2 1 (-2000)) fun (t54_0,t54_1,t54_2) =>
        some (t54_0,t54_1,t54_2)
      else
        bindF (Dec.whole.c t20) fun t59 =>
        letkF ((t20.size:Int)) fun t63 =>
        letkF (IntKind.i64.wrap (t27 - t63)) fun t64 =>
        letkF (decide (t64 ≥ (0:Int))) fun t66 =>
        bif t66 then
          bindF (Dec.big.power.c t59 10 t64) fun t69 =>
          Dec.round.j0.c kind0 mode1 sign2 t69 ([1])
        else
          letkF (IntKind.i64.wrap (0 - t64)) fun t72 =>
          bindF (Dec.big.power.c ([1]) 10 t72) fun t73 =>
          Dec.round.j0.c kind0 mode1 sign2 t59 t73
theorem Dec.round.c_le (kind0:Int) (mode1:Int) (sign2:Int) (digits3:ByteArray) (x4:Int):Le (Dec.round.c kind0 mode1 sign2 digits3 x4) (Dec.round kind0 mode1 sign2 digits3 x4):=by
  unfold Dec.round.c Dec.round
  repeat' (first | with_reducible refine Le.letkF (by first | rfl | simp only [Lib.toList_data]) (fun z=>?_) | with_reducible refine Le.chk ?_ | with_reducible refine Le.bif ?_ ?_ | with_reducible refine Le.map ?_ | with_reducible refine Le.loop (fun s=>?_) | with_reducible exact Flt.Make.c_le .. | with_reducible exact Dec.whole.c_le .. | with_reducible exact Dec.big.power.c_le .. | with_reducible exact Dec.round.j0.c_le .. | with_reducible exact Strs.TrimLeft.c_le .. | with_reducible refine Le.bindF ?_ (fun z=>?_) | with_reducible exact Le.refl _ | (rcases z with ⟨_,_⟩; dsimp only))
noncomputable def Dec.Read.c (text0:ByteArray) (kind1:Int) (mode2:Int):Option (Int × Int × Int) :=
  bindF (Dec.isKind.c kind1 mode2) fun t13 =>
  letkF (!t13) fun t14 =>
  bif t14 then
    some (0,0,2)
  else
    bindF (Dec.parse.c text0) fun (t17_0,t17_1) =>
    letkF (!t17_1) fun t22 =>
    bif t22 then
      some (0,0,3)
    else
      letkF (!(t17_0.word.data.toList == (⟨#[]⟩:ByteArray).data.toList)) fun t26 =>
      bif t26 then
        bindF (Dec.word.c kind1 (⟨t17_0.sign,t17_0.word,t17_0.digits,t17_0.x⟩:decimal.parsed)) fun t29 =>
        some (t29,0,0)
      else
        bindF (Dec.round.c kind1 mode2 t17_0.sign t17_0.digits t17_0.x) fun (t38_0,t38_1,t38_2) =>
        some (t38_0,t38_1,t38_2)
theorem Dec.Read.c_le (text0:ByteArray) (kind1:Int) (mode2:Int):Le (Dec.Read.c text0 kind1 mode2) (Dec.Read text0 kind1 mode2):=by
  unfold Dec.Read.c Dec.Read
  repeat' (first | with_reducible refine Le.letkF (by first | rfl | simp only [Lib.toList_data]) (fun z=>?_) | with_reducible refine Le.chk ?_ | with_reducible refine Le.bif ?_ ?_ | with_reducible refine Le.map ?_ | with_reducible refine Le.loop (fun s=>?_) | with_reducible exact Dec.isKind.c_le .. | with_reducible exact Dec.parse.c_le .. | with_reducible exact Dec.word.c_le .. | with_reducible exact Dec.round.c_le .. | with_reducible refine Le.bindF ?_ (fun z=>?_) | with_reducible exact Le.refl _ | (rcases z with ⟨_,_⟩; dsimp only))
noncomputable def Flt.Class.c (kind0:Int) (a1:Int):Option ByteArray :=
  bindF (Flt.two.c kind0 0 a1 a1) fun (t13_0,t13_1,t13_2,t13_3) =>
  letkF (!t13_3) fun t20 =>
  bif t20 then
    some ⟨#[]⟩
  else
    letkF (t13_1.class_ == (0:Int)) fun t24 =>
    bif t24 then
      some ⟨#[122,101,114,111]⟩
    else
      letkF (t13_1.class_ == (2:Int)) fun t28 =>
      bif t28 then
        some ⟨#[105,110,102,105,110,105,116,101]⟩
      else
        letkF (t13_1.class_ == (3:Int)) fun t32 =>
        bif t32 then
          some ⟨#[110,111,110,101]⟩
        else
          letkF (IntKind.i64.wrap (t13_0.p - (1:Int))) fun t38 =>
          chkD (0 ≤ t38) <|
          letkF (IntKind.u64.wrap ((1:Int) * 2 ^ (min t38.toNat (IntKind.u64).bits))) fun t39 =>
          letkF (decide (t13_1.m < t39)) fun t40 =>
          bif t40 then
            some ⟨#[108,101,97,115,116]⟩
          else
            some ⟨#[110,111,114,109,97,108]⟩
theorem Flt.Class.c_le (kind0:Int) (a1:Int):Le (Flt.Class.c kind0 a1) (Flt.Class kind0 a1):=by
  unfold Flt.Class.c Flt.Class
  repeat' (first | with_reducible refine Le.letkF (by first | rfl | simp only [Lib.toList_data]) (fun z=>?_) | with_reducible refine Le.chk ?_ | with_reducible refine Le.bif ?_ ?_ | with_reducible refine Le.map ?_ | with_reducible refine Le.loop (fun s=>?_) | with_reducible exact Flt.two.c_le .. | with_reducible refine Le.bindF ?_ (fun z=>?_) | with_reducible exact Le.refl _ | (rcases z with ⟨_,_⟩; dsimp only))
noncomputable def Flt.shape.place.c (s0:float.shape) (a1:Int):Option Int :=
  letkF (IntKind.u64.wrap a1) fun t7 =>
  letkF (IntKind.i64.wrap (s0.p + s0.w)) fun t12 =>
  letkF (IntKind.i64.wrap (t12 - (1:Int))) fun t13 =>
  chkD (0 ≤ t13) <|
  letkF (IntKind.u64.wrap ((1:Int) * 2 ^ (min t13.toNat (IntKind.u64).bits))) fun t14 =>
  letkF (IntKind.u64.wrap (t14 - (1:Int))) fun t15 =>
  letkF (IntKind.u64.wrap (BitVec.ofInt (IntKind.u64).bits t7 &&& BitVec.ofInt (IntKind.u64).bits t15).toNat) fun t16 =>
  letkF (IntKind.i64.wrap t16) fun t17 =>
  letkF (IntKind.u64.wrap a1) fun t19 =>
  letkF (IntKind.i64.wrap (s0.p + s0.w)) fun t24 =>
  letkF (IntKind.i64.wrap (t24 - (1:Int))) fun t25 =>
  chkD (0 ≤ t25) <|
  letkF ((IntKind.u64,t19.fdiv (2 ^ (min t25.toNat (IntKind.u64).bits))).2) fun t26 =>
  letkF (IntKind.u64.wrap (BitVec.ofInt (IntKind.u64).bits t26 &&& BitVec.ofInt (IntKind.u64).bits (1:Int)).toNat) fun t27 =>
  letkF (t27 == (1:Int)) fun t28 =>
  bif t28 then
    letkF (IntKind.i64.wrap (0 - t17)) fun t30 =>
    some t30
  else
    some t17
theorem Flt.shape.place.c_le (s0:float.shape) (a1:Int):Le (Flt.shape.place.c s0 a1) (Flt.shape.place s0 a1):=by
  unfold Flt.shape.place.c Flt.shape.place
  repeat' (first | with_reducible refine Le.letkF (by first | rfl | simp only [Lib.toList_data]) (fun z=>?_) | with_reducible refine Le.chk ?_ | with_reducible refine Le.bif ?_ ?_ | with_reducible refine Le.map ?_ | with_reducible refine Le.loop (fun s=>?_) | with_reducible refine Le.bindF ?_ (fun z=>?_) | with_reducible exact Le.refl _ | (rcases z with ⟨_,_⟩; dsimp only))
noncomputable def Flt.Compare.j0.c (a1:Int) (b2:Int) (t18_0:float.shape):Option (Int × Int) :=
  bindF (Flt.shape.place.c (⟨t18_0.p,t18_0.w⟩:float.shape) a1) fun t46 =>
  bindF (Flt.shape.place.c (⟨t18_0.p,t18_0.w⟩:float.shape) b2) fun t49 =>
  letkF (decide (t46 < t49)) fun t53 =>
  bif t53 then
    some ((-1),0)
  else
    letkF (decide (t46 > t49)) fun t57 =>
    bif t57 then
      some (1,0)
    else
      some (0,0)
theorem Flt.Compare.j0.c_le (a1:Int) (b2:Int) (t18_0:float.shape):Le (Flt.Compare.j0.c a1 b2 t18_0) (Flt.Compare.j0 a1 b2 t18_0):=by
  unfold Flt.Compare.j0.c Flt.Compare.j0
  repeat' (first | with_reducible refine Le.letkF (by first | rfl | simp only [Lib.toList_data]) (fun z=>?_) | with_reducible refine Le.chk ?_ | with_reducible refine Le.bif ?_ ?_ | with_reducible refine Le.map ?_ | with_reducible refine Le.loop (fun s=>?_) | with_reducible exact Flt.shape.place.c_le .. | with_reducible refine Le.bindF ?_ (fun z=>?_) | with_reducible exact Le.refl _ | (rcases z with ⟨_,_⟩; dsimp only))
noncomputable def Flt.Compare.j1.c (a1:Int) (b2:Int) (t18_0:float.shape) (t18_1:float.number) (t18_2:float.number) (t26:Bool):Option (Int × Int) :=
  bif t26 then
    some (2,0)
  else
    letkF (t18_1.class_ == (0:Int)) fun t38 =>
    bif t38 then
      letkF (t18_2.class_ == (0:Int)) fun t42 =>
      bif t42 then
        some (0,0)
      else
        Flt.Compare.j0.c a1 b2 t18_0
    else
      Flt.Compare.j0.c a1 b2 t18_0
theorem Flt.Compare.j1.c_le (a1:Int) (b2:Int) (t18_0:float.shape) (t18_1:float.number) (t18_2:float.number) (t26:Bool):Le (Flt.Compare.j1.c a1 b2 t18_0 t18_1 t18_2 t26) (Flt.Compare.j1 a1 b2 t18_0 t18_1 t18_2 t26):=by
  unfold Flt.Compare.j1.c Flt.Compare.j1
  repeat' (first | with_reducible refine Le.letkF (by first | rfl | simp only [Lib.toList_data]) (fun z=>?_) | with_reducible refine Le.chk ?_ | with_reducible refine Le.bif ?_ ?_ | with_reducible refine Le.map ?_ | with_reducible refine Le.loop (fun s=>?_) | with_reducible exact Flt.Compare.j0.c_le .. | with_reducible refine Le.bindF ?_ (fun z=>?_) | with_reducible exact Le.refl _ | (rcases z with ⟨_,_⟩; dsimp only))
noncomputable def Flt.Compare.c (kind0:Int) (a1:Int) (b2:Int):Option (Int × Int) :=
  bindF (Flt.two.c kind0 0 a1 b2) fun (t18_0,t18_1,t18_2,t18_3) =>
  letkF (!t18_3) fun t25 =>
  bif t25 then
    some (0,2)
  else
    letkF (t18_1.class_ == (3:Int)) fun t29 =>
    bif t29 then
      Flt.Compare.j1.c a1 b2 t18_0 t18_1 t18_2 true
    else
      letkF (t18_2.class_ == (3:Int)) fun t33 =>
      Flt.Compare.j1.c a1 b2 t18_0 t18_1 t18_2 t33
theorem Flt.Compare.c_le (kind0:Int) (a1:Int) (b2:Int):Le (Flt.Compare.c kind0 a1 b2) (Flt.Compare kind0 a1 b2):=by
  unfold Flt.Compare.c Flt.Compare
  repeat' (first | with_reducible refine Le.letkF (by first | rfl | simp only [Lib.toList_data]) (fun z=>?_) | with_reducible refine Le.chk ?_ | with_reducible refine Le.bif ?_ ?_ | with_reducible refine Le.map ?_ | with_reducible refine Le.loop (fun s=>?_) | with_reducible exact Flt.two.c_le .. | with_reducible exact Flt.Compare.j1.c_le .. | with_reducible refine Le.bindF ?_ (fun z=>?_) | with_reducible exact Le.refl _ | (rcases z with ⟨_,_⟩; dsimp only))
noncomputable def Dec.special.c (kind0:Int) (a1:Int):Option (ByteArray × Bool) :=
  bindF (Flt.Class.c kind0 a1) fun t10 =>
  letkF (t10.data.toList == (⟨#[110,111,110,101]⟩:ByteArray).data.toList) fun t12 =>
  bif t12 then
    some (⟨#[110,97,110]⟩,true)
  else
    letkF (t10.data.toList == (⟨#[105,110,102,105,110,105,116,101]⟩:ByteArray).data.toList) fun t14 =>
    bif t14 then
      bindF (Flt.Compare.c kind0 a1 0) fun (t18_0,t18_1) =>
      letkF (decide (t18_0 < (0:Int))) fun t22 =>
      bif t22 then
        some (⟨#[45,105,110,102]⟩,true)
      else
        some (⟨#[105,110,102]⟩,true)
    else
      some (⟨#[]⟩,false)
theorem Dec.special.c_le (kind0:Int) (a1:Int):Le (Dec.special.c kind0 a1) (Dec.special kind0 a1):=by
  unfold Dec.special.c Dec.special
  repeat' (first | with_reducible refine Le.letkF (by first | rfl | simp only [Lib.toList_data]) (fun z=>?_) | with_reducible refine Le.chk ?_ | with_reducible refine Le.bif ?_ ?_ | with_reducible refine Le.map ?_ | with_reducible refine Le.loop (fun s=>?_) | with_reducible exact Flt.Class.c_le .. | with_reducible exact Flt.Compare.c_le .. | with_reducible refine Le.bindF ?_ (fun z=>?_) | with_reducible exact Le.refl _ | (rcases z with ⟨_,_⟩; dsimp only))
noncomputable def Dec.isFinite.c (kind0:Int) (a1:Int):Option Bool :=
  bindF (Flt.Class.c kind0 a1) fun t8 =>
  letkF (t8.data.toList == (⟨#[108,101,97,115,116]⟩:ByteArray).data.toList) fun t10 =>
  bif t10 then
    some true
  else
    letkF (t8.data.toList == (⟨#[110,111,114,109,97,108]⟩:ByteArray).data.toList) fun t13 =>
    some t13
theorem Dec.isFinite.c_le (kind0:Int) (a1:Int):Le (Dec.isFinite.c kind0 a1) (Dec.isFinite kind0 a1):=by
  unfold Dec.isFinite.c Dec.isFinite
  repeat' (first | with_reducible refine Le.letkF (by first | rfl | simp only [Lib.toList_data]) (fun z=>?_) | with_reducible refine Le.chk ?_ | with_reducible refine Le.bif ?_ ?_ | with_reducible refine Le.map ?_ | with_reducible refine Le.loop (fun s=>?_) | with_reducible exact Flt.Class.c_le .. | with_reducible refine Le.bindF ?_ (fun z=>?_) | with_reducible exact Le.refl _ | (rcases z with ⟨_,_⟩; dsimp only))
noncomputable def Flt.Parts.j0.c (t17_1:float.number):Option (Int × Int × Int × Int) :=
  bindF (Bits.TrailingZeros64.c t17_1.m) fun t42 =>
  chkD (0 ≤ t42) <|
  letkF ((IntKind.u64,t17_1.m.fdiv (2 ^ (min t42.toNat (IntKind.u64).bits))).2) fun t48 =>
  letkF (IntKind.i64.wrap t48) fun t49 =>
  letkF (IntKind.i64.wrap (t17_1.e + t42)) fun t53 =>
  some (t17_1.sign,t49,t53,0)
theorem Flt.Parts.j0.c_le (t17_1:float.number):Le (Flt.Parts.j0.c t17_1) (Flt.Parts.j0 t17_1):=by
  unfold Flt.Parts.j0.c Flt.Parts.j0
  repeat' (first | with_reducible refine Le.letkF (by first | rfl | simp only [Lib.toList_data]) (fun z=>?_) | with_reducible refine Le.chk ?_ | with_reducible refine Le.bif ?_ ?_ | with_reducible refine Le.map ?_ | with_reducible refine Le.loop (fun s=>?_) | with_reducible exact Bits.TrailingZeros64.c_le .. | with_reducible refine Le.bindF ?_ (fun z=>?_) | with_reducible exact Le.refl _ | (rcases z with ⟨_,_⟩; dsimp only))
noncomputable def Flt.Parts.j1.c (t17_1:float.number) (t25:Bool):Option (Int × Int × Int × Int) :=
  bif t25 then
    some (0,0,0,10)
  else
    letkF (t17_1.class_ == (0:Int)) fun t37 =>
    bif t37 then
      some (t17_1.sign,0,0,0)
    else
      Flt.Parts.j0.c t17_1
theorem Flt.Parts.j1.c_le (t17_1:float.number) (t25:Bool):Le (Flt.Parts.j1.c t17_1 t25) (Flt.Parts.j1 t17_1 t25):=by
  unfold Flt.Parts.j1.c Flt.Parts.j1
  repeat' (first | with_reducible refine Le.letkF (by first | rfl | simp only [Lib.toList_data]) (fun z=>?_) | with_reducible refine Le.chk ?_ | with_reducible refine Le.bif ?_ ?_ | with_reducible refine Le.map ?_ | with_reducible refine Le.loop (fun s=>?_) | with_reducible exact Flt.Parts.j0.c_le .. | with_reducible refine Le.bindF ?_ (fun z=>?_) | with_reducible exact Le.refl _ | (rcases z with ⟨_,_⟩; dsimp only))
noncomputable def Flt.Parts.c (kind0:Int) (a1:Int):Option (Int × Int × Int × Int) :=
  bindF (Flt.two.c kind0 0 a1 a1) fun (t17_0,t17_1,t17_2,t17_3) =>
  letkF (!t17_3) fun t24 =>
  bif t24 then
    some (0,0,0,2)
  else
    letkF (t17_1.class_ == (2:Int)) fun t28 =>
    bif t28 then
      Flt.Parts.j1.c t17_1 true
    else
      letkF (t17_1.class_ == (3:Int)) fun t32 =>
      Flt.Parts.j1.c t17_1 t32
theorem Flt.Parts.c_le (kind0:Int) (a1:Int):Le (Flt.Parts.c kind0 a1) (Flt.Parts kind0 a1):=by
  unfold Flt.Parts.c Flt.Parts
  repeat' (first | with_reducible refine Le.letkF (by first | rfl | simp only [Lib.toList_data]) (fun z=>?_) | with_reducible refine Le.chk ?_ | with_reducible refine Le.bif ?_ ?_ | with_reducible refine Le.map ?_ | with_reducible refine Le.loop (fun s=>?_) | with_reducible exact Flt.two.c_le .. | with_reducible exact Flt.Parts.j1.c_le .. | with_reducible refine Le.bindF ?_ (fun z=>?_) | with_reducible exact Le.refl _ | (rcases z with ⟨_,_⟩; dsimp only))
noncomputable def Dec.exact.j0.c (t14_0:Int) (e8:Int) (b10:List Int):Option (Int × ByteArray × Int) :=
  bindF (Dec.big.digits.c b10) fun t32 =>
  bindF (Strs.TrimRight.c t32 ⟨#[48]⟩) fun t35 =>
  letkF ((t32.size:Int)) fun t37 =>
  letkF (IntKind.i64.wrap (t37 + e8)) fun t39 =>
  some (t14_0,t35,t39)
theorem Dec.exact.j0.c_le (t14_0:Int) (e8:Int) (b10:List Int):Le (Dec.exact.j0.c t14_0 e8 b10) (Dec.exact.j0 t14_0 e8 b10):=by
  unfold Dec.exact.j0.c Dec.exact.j0
  repeat' (first | with_reducible refine Le.letkF (by first | rfl | simp only [Lib.toList_data]) (fun z=>?_) | with_reducible refine Le.chk ?_ | with_reducible refine Le.bif ?_ ?_ | with_reducible refine Le.map ?_ | with_reducible refine Le.loop (fun s=>?_) | with_reducible exact Strs.TrimRight.c_le .. | with_reducible exact Dec.big.digits.c_le .. | with_reducible refine Le.bindF ?_ (fun z=>?_) | with_reducible exact Le.refl _ | (rcases z with ⟨_,_⟩; dsimp only))
noncomputable def Dec.exact.c (kind0:Int) (a1:Int):Option (Int × ByteArray × Int) :=
  bindF (Flt.Parts.c kind0 a1) fun (t14_0,t14_1,t14_2,t14_3) =>
  bindF (Strconv.Itoa.c t14_1) fun t20 =>
  bindF (Dec.whole.c t20) fun t21 =>
  letkF (decide (t14_2 ≥ (0:Int))) fun t23 =>
  bif t23 then
    bindF (Dec.big.power.c t21 2 t14_2) fun t26 =>
    Dec.exact.j0.c t14_0 0 t26
  else
    letkF (IntKind.i64.wrap (0 - t14_2)) fun t29 =>
    bindF (Dec.big.power.c t21 5 t29) fun t30 =>
    Dec.exact.j0.c t14_0 t14_2 t30
theorem Dec.exact.c_le (kind0:Int) (a1:Int):Le (Dec.exact.c kind0 a1) (Dec.exact kind0 a1):=by
  unfold Dec.exact.c Dec.exact
  repeat' (first | with_reducible refine Le.letkF (by first | rfl | simp only [Lib.toList_data]) (fun z=>?_) | with_reducible refine Le.chk ?_ | with_reducible refine Le.bif ?_ ?_ | with_reducible refine Le.map ?_ | with_reducible refine Le.loop (fun s=>?_) | with_reducible exact Dec.whole.c_le .. | with_reducible exact Dec.big.power.c_le .. | with_reducible exact Flt.Parts.c_le .. | with_reducible exact Dec.exact.j0.c_le .. | with_reducible exact Strconv.Itoa.c_le .. | with_reducible refine Le.bindF ?_ (fun z=>?_) | with_reducible exact Le.refl _ | (rcases z with ⟨_,_⟩; dsimp only))
noncomputable def Dec.away.j1.c (digits2:ByteArray) (n3:Int) (odd9:Bool):Option Bool :=
  chkD (0 ≤ n3 ∧ n3 < (digits2.size:Int)) <|
  letkF (bt digits2 n3) fun t38 =>
  letkF (decide (t38 > (53:Int))) fun t39 =>
  bif t39 then
    some true
  else
    letkF (IntKind.i64.wrap (n3 + (1:Int))) fun t42 =>
    letkF ((digits2.size:Int)) fun t44 =>
    letkF (decide (t42 < t44)) fun t45 =>
    bif t45 then
      some true
    else
      some odd9
theorem Dec.away.j1.c_le (digits2:ByteArray) (n3:Int) (odd9:Bool):Le (Dec.away.j1.c digits2 n3 odd9) (Dec.away.j1 digits2 n3 odd9):=by
  unfold Dec.away.j1.c Dec.away.j1
  repeat' (first | with_reducible refine Le.letkF (by first | rfl | simp only [Lib.toList_data]) (fun z=>?_) | with_reducible refine Le.chk ?_ | with_reducible refine Le.bif ?_ ?_ | with_reducible refine Le.map ?_ | with_reducible refine Le.loop (fun s=>?_) | with_reducible refine Le.bindF ?_ (fun z=>?_) | with_reducible exact Le.refl _ | (rcases z with ⟨_,_⟩; dsimp only))
noncomputable def Dec.away.j0.c (digits2:ByteArray) (n3:Int):Option Bool :=
  letkF (decide (n3 > (0:Int))) fun t26 =>
  bif t26 then
    letkF (IntKind.i64.wrap (n3 - (1:Int))) fun t30 =>
    chkD (0 ≤ t30 ∧ t30 < (digits2.size:Int)) <|
    letkF (bt digits2 t30) fun t31 =>
    letkF (IntKind.u8.wrap (t31 - (48:Int))) fun t32 =>
    chkD ((2:Int) ≠ 0) <|
    letkF (t32.tmod (2:Int)) fun t33 =>
    letkF (t33 == (1:Int)) fun t34 =>
    Dec.away.j1.c digits2 n3 t34
  else
    Dec.away.j1.c digits2 n3 false
theorem Dec.away.j0.c_le (digits2:ByteArray) (n3:Int):Le (Dec.away.j0.c digits2 n3) (Dec.away.j0 digits2 n3):=by
  unfold Dec.away.j0.c Dec.away.j0
  repeat' (first | with_reducible refine Le.letkF (by first | rfl | simp only [Lib.toList_data]) (fun z=>?_) | with_reducible refine Le.chk ?_ | with_reducible refine Le.bif ?_ ?_ | with_reducible refine Le.map ?_ | with_reducible refine Le.loop (fun s=>?_) | with_reducible exact Dec.away.j1.c_le .. | with_reducible refine Le.bindF ?_ (fun z=>?_) | with_reducible exact Le.refl _ | (rcases z with ⟨_,_⟩; dsimp only))
noncomputable def Dec.away.c (mode0:Int) (sign1:Int) (digits2:ByteArray) (n3:Int):Option Bool :=
  letkF ((digits2.size:Int)) fun t12 =>
  letkF (decide (n3 ≥ t12)) fun t13 =>
  bif t13 then
    some false
  else
    letkF (mode0 == (0:Int)) fun t16 =>
    bif t16 then
      letkF (decide (n3 < (0:Int))) fun t18 =>
      bif t18 then
        some false
      else
        chkD (0 ≤ n3 ∧ n3 < (digits2.size:Int)) <|
        letkF (bt digits2 n3) fun t22 =>
        letkF (decide (t22 < (53:Int))) fun t23 =>
        bif t23 then
          some false
        else
          Dec.away.j0.c digits2 n3
    else
      letkF (mode0 == (2:Int)) fun t51 =>
      bif t51 then
        letkF (sign1 == (1:Int)) fun t53 =>
        some t53
      else
        letkF (mode0 == (3:Int)) fun t55 =>
        bif t55 then
          letkF (sign1 == (0:Int)) fun t57 =>
          some t57
        else
          some false
theorem Dec.away.c_le (mode0:Int) (sign1:Int) (digits2:ByteArray) (n3:Int):Le (Dec.away.c mode0 sign1 digits2 n3) (Dec.away mode0 sign1 digits2 n3):=by
  unfold Dec.away.c Dec.away
  repeat' (first | with_reducible refine Le.letkF (by first | rfl | simp only [Lib.toList_data]) (fun z=>?_) | with_reducible refine Le.chk ?_ | with_reducible refine Le.bif ?_ ?_ | with_reducible refine Le.map ?_ | with_reducible refine Le.loop (fun s=>?_) | with_reducible exact Dec.away.j0.c_le .. | with_reducible refine Le.bindF ?_ (fun z=>?_) | with_reducible exact Le.refl _ | (rcases z with ⟨_,_⟩; dsimp only))
noncomputable def Dec.cut.s0.c (b7:List Int) (i8:Int):Option (((List Int) × Int) ⊕ ByteArray) :=
  letkF (decide (i8 ≥ (0:Int))) fun t33 =>
  bif t33 then
    chkD (0 ≤ i8 ∧ i8 < (b7.length:Int)) <|
    letkF (0 + i8.toNat) fun t38 =>
    bindF (b7[t38]?) fun t39 =>
    letkF (decide (t39 < (57:Int))) fun t40 =>
    bif t40 then
      chkD (0 ≤ i8 ∧ i8 < (b7.length:Int)) <|
      letkF (0 + i8.toNat) fun t43 =>
      bindF (b7[t43]?) fun t44 =>
      letkF (IntKind.u8.wrap (t44 + (1:Int))) fun t45 =>
      chkD (0 ≤ i8 ∧ i8 < (b7.length:Int)) <|
      letkF (0 + i8.toNat) fun t46 =>
      bindF (b7[t46]?) fun old_1 =>
      letkF (b7.set t46 t45) fun l_1 =>
      letkF (ofInts l_1) fun t48 =>
      some (.inr t48)
    else
      chkD (0 ≤ i8 ∧ i8 < (b7.length:Int)) <|
      letkF (0 + i8.toNat) fun t51 =>
      bindF (b7[t51]?) fun old =>
      letkF (b7.set t51 48) fun l =>
      letkF (IntKind.i64.wrap (i8 - (1:Int))) fun t35 =>
      some (.inl (l,t35))
  else
    ((
    letkF (ofInts b7) fun t53 =>
    chkD ((((⟨#[49]⟩:ByteArray).size + t53.size:Nat):Int) ≤ 9223372036854775807) <|
    letkF ((⟨#[49]⟩:ByteArray) ++ t53) fun t54 =>
    some t54)).map .inr
theorem Dec.cut.s0.c_le (b7:List Int) (i8:Int):Le (Dec.cut.s0.c b7 i8) (Dec.cut.s0 b7 i8):=by
  unfold Dec.cut.s0.c Dec.cut.s0
  repeat' (first | with_reducible refine Le.letkF (by first | rfl | simp only [Lib.toList_data]) (fun z=>?_) | with_reducible refine Le.chk ?_ | with_reducible refine Le.bif ?_ ?_ | with_reducible refine Le.map ?_ | with_reducible refine Le.loop (fun s=>?_) | with_reducible refine Le.bindF ?_ (fun z=>?_) | with_reducible exact Le.refl _ | (rcases z with ⟨_,_⟩; dsimp only))
noncomputable def Dec.cut.l0.c (b7:List Int) (i8:Int):Option ByteArray:=iterO (fun v:(List Int) × Int=>Dec.cut.s0.c v.1 v.2) 3000 (b7,i8)
theorem Dec.cut.l0.c_le (b7:List Int) (i8:Int):Le (Dec.cut.l0.c b7 i8) (Dec.cut.l0 b7 i8):=by
  unfold Dec.cut.l0.c Dec.cut.l0
  repeat' (first | with_reducible refine Le.letkF (by first | rfl | simp only [Lib.toList_data]) (fun z=>?_) | with_reducible refine Le.chk ?_ | with_reducible refine Le.bif ?_ ?_ | with_reducible refine Le.map ?_ | with_reducible refine Le.loop (fun s=>?_) | with_reducible exact Dec.cut.s0.c_le .. | with_reducible refine Le.bindF ?_ (fun z=>?_) | with_reducible exact Le.refl _ | (rcases z with ⟨_,_⟩; dsimp only))
noncomputable def Dec.cut.j0.c (t10:Int) (digits0_1:ByteArray) (more2_1:Bool):Option ByteArray :=
  chkD (0 ≤ t10 ∧ t10 ≤ (digits0_1.size:Int)) <|
  letkF (digits0_1.extract 0 t10.toNat) fun t24 =>
  letkF (!more2_1) fun t26 =>
  bif t26 then
    some t24
  else
    letkF (bytesI t24) fun t29 =>
    letkF (IntKind.i64.wrap (t10 - (1:Int))) fun t31 =>
    Dec.cut.l0.c t29 t31
theorem Dec.cut.j0.c_le (t10:Int) (digits0_1:ByteArray) (more2_1:Bool):Le (Dec.cut.j0.c t10 digits0_1 more2_1) (Dec.cut.j0 t10 digits0_1 more2_1):=by
  unfold Dec.cut.j0.c Dec.cut.j0
  repeat' (first | with_reducible refine Le.letkF (by first | rfl | simp only [Lib.toList_data]) (fun z=>?_) | with_reducible refine Le.chk ?_ | with_reducible refine Le.bif ?_ ?_ | with_reducible refine Le.map ?_ | with_reducible refine Le.loop (fun s=>?_) | with_reducible exact Dec.cut.l0.c_le .. | with_reducible refine Le.bindF ?_ (fun z=>?_) | with_reducible exact Le.refl _ | (rcases z with ⟨_,_⟩; dsimp only))
noncomputable def Dec.cut.c (digits0:ByteArray) (n1:Int) (more2:Bool):Option ByteArray :=
  letkF (if 0 > n1 then 0 else n1) fun t10 =>
  letkF ((digits0.size:Int)) fun t13 =>
  letkF (decide (t10 > t13)) fun t14 =>
  bif t14 then
    letkF ((digits0.size:Int)) fun t18 =>
    letkF (IntKind.i64.wrap (t10 - t18)) fun t19 =>
    bindF (Strs.Repeat.c ⟨#[48]⟩ t19) fun t20 =>
    chkD (((digits0.size + t20.size:Nat):Int) ≤ 9223372036854775807) <|
    letkF (digits0 ++ t20) fun t21 =>
    Dec.cut.j0.c t10 t21 more2
  else
    Dec.cut.j0.c t10 digits0 more2
theorem Dec.cut.c_le (digits0:ByteArray) (n1:Int) (more2:Bool):Le (Dec.cut.c digits0 n1 more2) (Dec.cut digits0 n1 more2):=by
  unfold Dec.cut.c Dec.cut
  repeat' (first | with_reducible refine Le.letkF (by first | rfl | simp only [Lib.toList_data]) (fun z=>?_) | with_reducible refine Le.chk ?_ | with_reducible refine Le.bif ?_ ?_ | with_reducible refine Le.map ?_ | with_reducible refine Le.loop (fun s=>?_) | with_reducible exact Dec.cut.j0.c_le .. | with_reducible exact Strs.Repeat.c_le .. | with_reducible refine Le.bindF ?_ (fun z=>?_) | with_reducible exact Le.refl _ | (rcases z with ⟨_,_⟩; dsimp only))
noncomputable def Dec.to.c (digits0:ByteArray) (x1:Int) (n2:Int) (more3:Bool):Option (ByteArray × Int) :=
  bindF (Dec.cut.c digits0 n2 more3) fun t14 =>
  letkF ((t14.size:Int)) fun t16 =>
  letkF (decide (t16 > n2)) fun t18 =>
  bif t18 then
    chkD (0 ≤ n2 ∧ n2 ≤ (t14.size:Int)) <|
    letkF (t14.extract 0 n2.toNat) fun t21 =>
    letkF (IntKind.i64.wrap (x1 + (1:Int))) fun t23 =>
    some (t21,t23)
  else
    some (t14,x1)
theorem Dec.to.c_le (digits0:ByteArray) (x1:Int) (n2:Int) (more3:Bool):Le (Dec.to.c digits0 x1 n2 more3) (Dec.to digits0 x1 n2 more3):=by
  unfold Dec.to.c Dec.to
  repeat' (first | with_reducible refine Le.letkF (by first | rfl | simp only [Lib.toList_data]) (fun z=>?_) | with_reducible refine Le.chk ?_ | with_reducible refine Le.bif ?_ ?_ | with_reducible refine Le.map ?_ | with_reducible refine Le.loop (fun s=>?_) | with_reducible exact Dec.cut.c_le .. | with_reducible refine Le.bindF ?_ (fun z=>?_) | with_reducible exact Le.refl _ | (rcases z with ⟨_,_⟩; dsimp only))
noncomputable def Dec.Shortest.j0.c (kind0:Int) (a1:Int) (t24_1:ByteArray) (t24_2:Int) (n10:Int) (t40:Int) (sign4_1:Int) (t41:Int) (more13:Bool) (t39_1:List Bool):Option ((Int × (List Bool) × Int) ⊕ ((Int × Int) ⊕ (Int × ByteArray × Int × Int))) :=
  bindF (Dec.to.c t24_1 t24_2 n10 more13) fun (t57_0,t57_1) =>
  bindF (Dec.round.c kind0 0 sign4_1 t57_0 t57_1) fun (t65_0,t65_1,t65_2) =>
  letkF (t65_0 == a1) fun t71 =>
  bif t71 then
    some (.inr (.inr (sign4_1,t57_0,t57_1,0)))
  else
    letkF (IntKind.i64.wrap (t41 + (1:Int))) fun t75 =>
    some (.inl (sign4_1,t39_1,t75))
theorem Dec.Shortest.j0.c_le (kind0:Int) (a1:Int) (t24_1:ByteArray) (t24_2:Int) (n10:Int) (t40:Int) (sign4_1:Int) (t41:Int) (more13:Bool) (t39_1:List Bool):Le (Dec.Shortest.j0.c kind0 a1 t24_1 t24_2 n10 t40 sign4_1 t41 more13 t39_1) (Dec.Shortest.j0 kind0 a1 t24_1 t24_2 n10 t40 sign4_1 t41 more13 t39_1):=by
  unfold Dec.Shortest.j0.c Dec.Shortest.j0
  repeat' (first | with_reducible refine Le.letkF (by first | rfl | simp only [Lib.toList_data]) (fun z=>?_) | with_reducible refine Le.chk ?_ | with_reducible refine Le.bif ?_ ?_ | with_reducible refine Le.map ?_ | with_reducible refine Le.loop (fun s=>?_) | with_reducible exact Dec.round.c_le .. | with_reducible exact Dec.to.c_le .. | with_reducible refine Le.bindF ?_ (fun z=>?_) | with_reducible exact Le.refl _ | (rcases z with ⟨_,_⟩; dsimp only))
noncomputable def Dec.Shortest.s1.c (kind0:Int) (a1:Int) (t24_1:ByteArray) (t24_2:Int) (n10:Int) (t40:Int) (sign4_1:Int) (t39:List Bool) (t41:Int):Option ((Int × (List Bool) × Int) ⊕ ((Int × Int) ⊕ (Int × ByteArray × Int × Int))) :=
  letkF (decide (t41 < t40)) fun t42 =>
  bif t42 then
    chkD (0 ≤ t41 ∧ t41 < (t39.length:Int)) <|
    letkF (0 + t41.toNat) fun t43 =>
    bindF (t39[t43]?) fun t44 =>
    bif t44 then
      letkF ((t24_1.size:Int)) fun t49 =>
      letkF (decide (n10 ≥ t49)) fun t50 =>
      bif t50 then
        letkF (IntKind.i64.wrap (t41 + (1:Int))) fun t75_1 =>
        some (.inl (sign4_1,t39,t75_1))
      else
        Dec.Shortest.j0.c kind0 a1 t24_1 t24_2 n10 t40 sign4_1 t41 true t39
    else
      Dec.Shortest.j0.c kind0 a1 t24_1 t24_2 n10 t40 sign4_1 t41 false t39
  else
    ((
    letkF (IntKind.i64.wrap (n10 + (1:Int))) fun t31 =>
    some (.inl (sign4_1,t31)))).map .inr
theorem Dec.Shortest.s1.c_le (kind0:Int) (a1:Int) (t24_1:ByteArray) (t24_2:Int) (n10:Int) (t40:Int) (sign4_1:Int) (t39:List Bool) (t41:Int):Le (Dec.Shortest.s1.c kind0 a1 t24_1 t24_2 n10 t40 sign4_1 t39 t41) (Dec.Shortest.s1 kind0 a1 t24_1 t24_2 n10 t40 sign4_1 t39 t41):=by
  unfold Dec.Shortest.s1.c Dec.Shortest.s1
  repeat' (first | with_reducible refine Le.letkF (by first | rfl | simp only [Lib.toList_data]) (fun z=>?_) | with_reducible refine Le.chk ?_ | with_reducible refine Le.bif ?_ ?_ | with_reducible refine Le.map ?_ | with_reducible refine Le.loop (fun s=>?_) | with_reducible exact Dec.Shortest.j0.c_le .. | with_reducible refine Le.bindF ?_ (fun z=>?_) | with_reducible exact Le.refl _ | (rcases z with ⟨_,_⟩; dsimp only))
noncomputable def Dec.Shortest.l1.c (kind0:Int) (a1:Int) (t24_1:ByteArray) (t24_2:Int) (n10:Int) (t40:Int) (sign4_1:Int) (t39:List Bool) (t41:Int):Option ((Int × Int) ⊕ (Int × ByteArray × Int × Int)):=iterO (fun v:Int × (List Bool) × Int=>Dec.Shortest.s1.c kind0 a1 t24_1 t24_2 n10 t40 v.1 v.2.1 v.2.2) 3000 (sign4_1,t39,t41)
theorem Dec.Shortest.l1.c_le (kind0:Int) (a1:Int) (t24_1:ByteArray) (t24_2:Int) (n10:Int) (t40:Int) (sign4_1:Int) (t39:List Bool) (t41:Int):Le (Dec.Shortest.l1.c kind0 a1 t24_1 t24_2 n10 t40 sign4_1 t39 t41) (Dec.Shortest.l1 kind0 a1 t24_1 t24_2 n10 t40 sign4_1 t39 t41):=by
  unfold Dec.Shortest.l1.c Dec.Shortest.l1
  repeat' (first | with_reducible refine Le.letkF (by first | rfl | simp only [Lib.toList_data]) (fun z=>?_) | with_reducible refine Le.chk ?_ | with_reducible refine Le.bif ?_ ?_ | with_reducible refine Le.map ?_ | with_reducible refine Le.loop (fun s=>?_) | with_reducible exact Dec.Shortest.s1.c_le .. | with_reducible refine Le.bindF ?_ (fun z=>?_) | with_reducible exact Le.refl _ | (rcases z with ⟨_,_⟩; dsimp only))
noncomputable def Dec.Shortest.s0.c (kind0:Int) (a1:Int) (t24_1:ByteArray) (t24_2:Int) (sign4:Int) (n10:Int):Option ((Int × Int) ⊕ (Int × ByteArray × Int × Int)) :=
  letkF (decide (n10 < (17:Int))) fun t29 =>
  bif t29 then
    bindF (Dec.away.c 0 sign4 t24_1 n10) fun t35 =>
    letkF (!t35) fun t38 =>
    letkF ((([t35,t38]).length:Int)) fun t40 =>
    Dec.Shortest.l1.c kind0 a1 t24_1 t24_2 n10 t40 sign4 ([t35,t38]) 0
  else
    ((
    bindF (Dec.away.c 0 sign4 t24_1 17) fun t81 =>
    bindF (Dec.to.c t24_1 t24_2 17 t81) fun (t82_0,t82_1) =>
    some (sign4,t82_0,t82_1,0)):Option (Int × ByteArray × Int × Int)).map .inr
theorem Dec.Shortest.s0.c_le (kind0:Int) (a1:Int) (t24_1:ByteArray) (t24_2:Int) (sign4:Int) (n10:Int):Le (Dec.Shortest.s0.c kind0 a1 t24_1 t24_2 sign4 n10) (Dec.Shortest.s0 kind0 a1 t24_1 t24_2 sign4 n10):=by
  unfold Dec.Shortest.s0.c Dec.Shortest.s0
  repeat' (first | with_reducible refine Le.letkF (by first | rfl | simp only [Lib.toList_data]) (fun z=>?_) | with_reducible refine Le.chk ?_ | with_reducible refine Le.bif ?_ ?_ | with_reducible refine Le.map ?_ | with_reducible refine Le.loop (fun s=>?_) | with_reducible exact Dec.away.c_le .. | with_reducible exact Dec.to.c_le .. | with_reducible exact Dec.Shortest.l1.c_le .. | with_reducible refine Le.bindF ?_ (fun z=>?_) | with_reducible exact Le.refl _ | (rcases z with ⟨_,_⟩; dsimp only))
noncomputable def Dec.Shortest.l0.c (kind0:Int) (a1:Int) (t24_1:ByteArray) (t24_2:Int) (sign4:Int) (n10:Int):Option (Int × ByteArray × Int × Int):=iterO (fun v:Int × Int=>Dec.Shortest.s0.c kind0 a1 t24_1 t24_2 v.1 v.2) 3000 (sign4,n10)
theorem Dec.Shortest.l0.c_le (kind0:Int) (a1:Int) (t24_1:ByteArray) (t24_2:Int) (sign4:Int) (n10:Int):Le (Dec.Shortest.l0.c kind0 a1 t24_1 t24_2 sign4 n10) (Dec.Shortest.l0 kind0 a1 t24_1 t24_2 sign4 n10):=by
  unfold Dec.Shortest.l0.c Dec.Shortest.l0
  repeat' (first | with_reducible refine Le.letkF (by first | rfl | simp only [Lib.toList_data]) (fun z=>?_) | with_reducible refine Le.chk ?_ | with_reducible refine Le.bif ?_ ?_ | with_reducible refine Le.map ?_ | with_reducible refine Le.loop (fun s=>?_) | with_reducible exact Dec.Shortest.s0.c_le .. | with_reducible refine Le.bindF ?_ (fun z=>?_) | with_reducible exact Le.refl _ | (rcases z with ⟨_,_⟩; dsimp only))
noncomputable def Dec.Shortest.c (kind0:Int) (a1:Int):Option (Int × ByteArray × Int × Int) :=
  bindF (Dec.isFinite.c kind0 a1) fun t19 =>
  letkF (!t19) fun t20 =>
  bif t20 then
    some (0,⟨#[]⟩,0,2)
  else
    bindF (Dec.exact.c kind0 a1) fun (t24_0,t24_1,t24_2) =>
    Dec.Shortest.l0.c kind0 a1 t24_1 t24_2 t24_0 1
theorem Dec.Shortest.c_le (kind0:Int) (a1:Int):Le (Dec.Shortest.c kind0 a1) (Dec.Shortest kind0 a1):=by
  unfold Dec.Shortest.c Dec.Shortest
  repeat' (first | with_reducible refine Le.letkF (by first | rfl | simp only [Lib.toList_data]) (fun z=>?_) | with_reducible refine Le.chk ?_ | with_reducible refine Le.bif ?_ ?_ | with_reducible refine Le.map ?_ | with_reducible refine Le.loop (fun s=>?_) | with_reducible exact Dec.isFinite.c_le .. | with_reducible exact Dec.exact.c_le .. | with_reducible exact Dec.Shortest.l0.c_le .. | with_reducible refine Le.bindF ?_ (fun z=>?_) | with_reducible exact Le.refl _ | (rcases z with ⟨_,_⟩; dsimp only))
noncomputable def Dec.parts.c (kind0:Int) (a1:Int):Option (Int × ByteArray × Int) :=
  bindF (Dec.isFinite.c kind0 a1) fun t9 =>
  bif t9 then
    bindF (Dec.exact.c kind0 a1) fun (t12_0,t12_1,t12_2) =>
    some (t12_0,t12_1,t12_2)
  else
    bindF (Flt.Parts.c kind0 a1) fun (t19_0,t19_1,t19_2,t19_3) =>
    some (t19_0,⟨#[]⟩,0)
theorem Dec.parts.c_le (kind0:Int) (a1:Int):Le (Dec.parts.c kind0 a1) (Dec.parts kind0 a1):=by
  unfold Dec.parts.c Dec.parts
  repeat' (first | with_reducible refine Le.letkF (by first | rfl | simp only [Lib.toList_data]) (fun z=>?_) | with_reducible refine Le.chk ?_ | with_reducible refine Le.bif ?_ ?_ | with_reducible refine Le.map ?_ | with_reducible refine Le.loop (fun s=>?_) | with_reducible exact Dec.isFinite.c_le .. | with_reducible exact Flt.Parts.c_le .. | with_reducible exact Dec.exact.c_le .. | with_reducible refine Le.bindF ?_ (fun z=>?_) | with_reducible exact Le.refl _ | (rcases z with ⟨_,_⟩; dsimp only))
noncomputable def Dec.minus.c (sign0:Int):Option ByteArray :=
  letkF (sign0 == (1:Int)) fun t4 =>
  bif t4 then
    some ⟨#[45]⟩
  else
    some ⟨#[]⟩
theorem Dec.minus.c_le (sign0:Int):Le (Dec.minus.c sign0) (Dec.minus sign0):=by
  unfold Dec.minus.c Dec.minus
  repeat' (first | with_reducible refine Le.letkF (by first | rfl | simp only [Lib.toList_data]) (fun z=>?_) | with_reducible refine Le.chk ?_ | with_reducible refine Le.bif ?_ ?_ | with_reducible refine Le.map ?_ | with_reducible refine Le.loop (fun s=>?_) | with_reducible refine Le.bindF ?_ (fun z=>?_) | with_reducible exact Le.refl _ | (rcases z with ⟨_,_⟩; dsimp only))
noncomputable def Dec.Plain.j0.c (t27_0:Int) (t27_2:Int) (t45:ByteArray):Option (ByteArray × Int) :=
  letkF (IntKind.i64.wrap (t27_2 + (1:Int))) fun t88 =>
  letkF ((t45.size:Int)) fun t90 =>
  letkF (IntKind.i64.wrap (t88 - t90)) fun t91 =>
  letkF (if t91 > 0 then t91 else 0) fun t92 =>
  bindF (Strs.Repeat.c ⟨#[48]⟩ t92) fun t93 =>
  chkD (((t45.size + t93.size:Nat):Int) ≤ 9223372036854775807) <|
  letkF (t45 ++ t93) fun t94 =>
  bindF (Dec.minus.c t27_0) fun t96 =>
  chkD (0 ≤ t27_2 ∧ t27_2 ≤ (t94.size:Int)) <|
  letkF (t94.extract 0 t27_2.toNat) fun t99 =>
  chkD (((t96.size + t99.size:Nat):Int) ≤ 9223372036854775807) <|
  letkF (t96 ++ t99) fun t100 =>
  chkD (((t100.size + (⟨#[46]⟩:ByteArray).size:Nat):Int) ≤ 9223372036854775807) <|
  letkF (t100 ++ (⟨#[46]⟩:ByteArray)) fun t101 =>
  chkD (0 ≤ t27_2 ∧ t27_2 ≤ (t94.size:Int)) <|
  letkF (t94.extract t27_2.toNat t94.size) fun t104 =>
  chkD (((t101.size + t104.size:Nat):Int) ≤ 9223372036854775807) <|
  letkF (t101 ++ t104) fun t105 =>
  some (t105,0)
theorem Dec.Plain.j0.c_le (t27_0:Int) (t27_2:Int) (t45:ByteArray):Le (Dec.Plain.j0.c t27_0 t27_2 t45) (Dec.Plain.j0 t27_0 t27_2 t45):=by
  unfold Dec.Plain.j0.c Dec.Plain.j0
  repeat' (first | with_reducible refine Le.letkF (by first | rfl | simp only [Lib.toList_data]) (fun z=>?_) | with_reducible refine Le.chk ?_ | with_reducible refine Le.bif ?_ ?_ | with_reducible refine Le.map ?_ | with_reducible refine Le.loop (fun s=>?_) | with_reducible exact Dec.minus.c_le .. | with_reducible exact Strs.Repeat.c_le .. | with_reducible refine Le.bindF ?_ (fun z=>?_) | with_reducible exact Le.refl _ | (rcases z with ⟨_,_⟩; dsimp only))
noncomputable def Dec.Plain.j1.c (t27_0:Int) (t27_2:Int) (t45:ByteArray) (t46:Bool):Option (ByteArray × Int) :=
  bif t46 then
    bindF (Dec.minus.c t27_0) fun t54 =>
    chkD (0 ≤ (1:Int) ∧ (1:Int) ≤ (t45.size:Int)) <|
    letkF (t45.extract 0 ((1:Int).toNat)) fun t56 =>
    chkD (((t54.size + t56.size:Nat):Int) ≤ 9223372036854775807) <|
    letkF (t54 ++ t56) fun t57 =>
    chkD (((t57.size + (⟨#[46]⟩:ByteArray).size:Nat):Int) ≤ 9223372036854775807) <|
    letkF (t57 ++ (⟨#[46]⟩:ByteArray)) fun t58 =>
    chkD (0 ≤ (1:Int) ∧ (1:Int) ≤ (t45.size:Int)) <|
    letkF (t45.extract (1:Int).toNat t45.size) fun t60 =>
    chkD (((t58.size + t60.size:Nat):Int) ≤ 9223372036854775807) <|
    letkF (t58 ++ t60) fun t61 =>
    letkF ((t45.size:Int)) fun t63 =>
    letkF (IntKind.i64.wrap (t63 - (1:Int))) fun t64 =>
    letkF (if t64 < 1 then t64 else 1) fun t65 =>
    letkF (IntKind.i64.wrap ((1:Int) - t65)) fun t66 =>
    bindF (Strs.Repeat.c ⟨#[48]⟩ t66) fun t67 =>
    chkD (((t61.size + t67.size:Nat):Int) ≤ 9223372036854775807) <|
    letkF (t61 ++ t67) fun t68 =>
    chkD (((t68.size + (⟨#[69]⟩:ByteArray).size:Nat):Int) ≤ 9223372036854775807) <|
    letkF (t68 ++ (⟨#[69]⟩:ByteArray)) fun t69 =>
    letkF (IntKind.i64.wrap (t27_2 - (1:Int))) fun t71 =>
    bindF (Strconv.Itoa.c t71) fun t72 =>
    chkD (((t69.size + t72.size:Nat):Int) ≤ 9223372036854775807) <|
    letkF (t69 ++ t72) fun t73 =>
    some (t73,0)
  else
    letkF (decide (t27_2 ≤ (0:Int))) fun t76 =>
    bif t76 then
      bindF (Dec.minus.c t27_0) fun t78 =>
      chkD (((t78.size + (⟨#[48,46]⟩:ByteArray).size:Nat):Int) ≤ 9223372036854775807) <|
      letkF (t78 ++ (⟨#[48,46]⟩:ByteArray)) fun t79 =>
      letkF (IntKind.i64.wrap (0 - t27_2)) fun t81 =>
      bindF (Strs.Repeat.c ⟨#[48]⟩ t81) fun t82 =>
      chkD (((t79.size + t82.size:Nat):Int) ≤ 9223372036854775807) <|
      letkF (t79 ++ t82) fun t83 =>
      chkD (((t83.size + t45.size:Nat):Int) ≤ 9223372036854775807) <|
      letkF (t83 ++ t45) fun t85 =>
      some (t85,0)
    else
      Dec.Plain.j0.c t27_0 t27_2 t45
theorem Dec.Plain.j1.c_le (t27_0:Int) (t27_2:Int) (t45:ByteArray) (t46:Bool):Le (Dec.Plain.j1.c t27_0 t27_2 t45 t46) (Dec.Plain.j1 t27_0 t27_2 t45 t46):=by
  unfold Dec.Plain.j1.c Dec.Plain.j1
  repeat' (first | with_reducible refine Le.letkF (by first | rfl | simp only [Lib.toList_data]) (fun z=>?_) | with_reducible refine Le.chk ?_ | with_reducible refine Le.bif ?_ ?_ | with_reducible refine Le.map ?_ | with_reducible refine Le.loop (fun s=>?_) | with_reducible exact Dec.minus.c_le .. | with_reducible exact Dec.Plain.j0.c_le .. | with_reducible exact Strs.Repeat.c_le .. | with_reducible exact Strconv.Itoa.c_le .. | with_reducible refine Le.bindF ?_ (fun z=>?_) | with_reducible exact Le.refl _ | (rcases z with ⟨_,_⟩; dsimp only))
noncomputable def Dec.Plain.c (kind0:Int) (a1:Int):Option (ByteArray × Int) :=
  bindF (Flt.Valid.c kind0 a1) fun t14 =>
  letkF (!t14) fun t15 =>
  bif t15 then
    some (⟨#[]⟩,2)
  else
    bindF (Dec.special.c kind0 a1) fun (t19_0,t19_1) =>
    bif t19_1 then
      some (t19_0,0)
    else
      bindF (Dec.Shortest.c kind0 a1) fun (t27_0,t27_1,t27_2,t27_3) =>
      letkF (t27_3 != (0:Int)) fun t33 =>
      bif t33 then
        bindF (Dec.parts.c kind0 a1) fun (t37_0,t37_1,t37_2) =>
        bindF (Dec.minus.c t37_0) fun t42 =>
        chkD (((t42.size + (⟨#[48,46,48]⟩:ByteArray).size:Nat):Int) ≤ 9223372036854775807) <|
        letkF (t42 ++ (⟨#[48,46,48]⟩:ByteArray)) fun t43 =>
        some (t43,0)
      else
        bindF (Strs.TrimRight.c t27_1 ⟨#[48]⟩) fun t45 =>
        letkF (decide (t27_2 < ((-3):Int))) fun t48 =>
        bif t48 then
          Dec.Plain.j1.c t27_0 t27_2 t45 true
        else
          letkF (decide (t27_2 > (9:Int))) fun t51 =>
          Dec.Plain.j1.c t27_0 t27_2 t45 t51
theorem Dec.Plain.c_le (kind0:Int) (a1:Int):Le (Dec.Plain.c kind0 a1) (Dec.Plain kind0 a1):=by
  unfold Dec.Plain.c Dec.Plain
  repeat' (first | with_reducible refine Le.letkF (by first | rfl | simp only [Lib.toList_data]) (fun z=>?_) | with_reducible refine Le.chk ?_ | with_reducible refine Le.bif ?_ ?_ | with_reducible refine Le.map ?_ | with_reducible refine Le.loop (fun s=>?_) | with_reducible exact Flt.Valid.c_le .. | with_reducible exact Dec.special.c_le .. | with_reducible exact Dec.Shortest.c_le .. | with_reducible exact Dec.parts.c_le .. | with_reducible exact Dec.minus.c_le .. | with_reducible exact Dec.Plain.j1.c_le .. | with_reducible exact Strs.TrimRight.c_le .. | with_reducible refine Le.bindF ?_ (fun z=>?_) | with_reducible exact Le.refl _ | (rcases z with ⟨_,_⟩; dsimp only))
noncomputable def Law2.Awake.c :Option Bool :=
  bindF (Dec.Read.c ⟨#[48,46,49]⟩ 8 0) fun (t12_0,t12_1,t12_2) =>
  bindF (Dec.Plain.c 8 t12_0) fun (t18_0,t18_1) =>
  bindF (Dec.Read.c ⟨#[49,101,50,50]⟩ 8 0) fun (t22_0,t22_1,t22_2) =>
  bindF (Dec.Plain.c 8 t22_0) fun (t28_0,t28_1) =>
  letkF (t12_2 == (0:Int)) fun t32 =>
  bif t32 then
    letkF (t18_1 == (0:Int)) fun t35 =>
    bif t35 then
      letkF (t18_0.data.toList == (⟨#[48,46,49]⟩:ByteArray).data.toList) fun t39 =>
      bif t39 then
        letkF (t22_2 == (0:Int)) fun t43 =>
        bif t43 then
          letkF (t28_1 == (0:Int)) fun t47 =>
          bif t47 then
            letkF (t28_0.data.toList == (⟨#[49,46,48,69,50,50]⟩:ByteArray).data.toList) fun t51 =>
            some t51
          else
            some false
        else
          some false
      else
        some false
    else
      some false
  else
    some false
theorem Law2.Awake.c_le:Le (Law2.Awake.c) (Law2.Awake):=by
  unfold Law2.Awake.c Law2.Awake
  repeat' (first | with_reducible refine Le.letkF (by first | rfl | simp only [Lib.toList_data]) (fun z=>?_) | with_reducible refine Le.chk ?_ | with_reducible refine Le.bif ?_ ?_ | with_reducible refine Le.map ?_ | with_reducible refine Le.loop (fun s=>?_) | with_reducible exact Dec.Read.c_le .. | with_reducible exact Dec.Plain.c_le .. | with_reducible refine Le.bindF ?_ (fun z=>?_) | with_reducible exact Le.refl _ | (rcases z with ⟨_,_⟩; dsimp only))
set_option maxRecDepth 1000000 in
theorem Law2.Awake_eq:Law2.Awake = some true:=Law2.Awake.c_le.of (by kernel_rfl)
end Go.Q
